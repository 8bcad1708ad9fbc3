/- A1b: what functions of the program compute (written by mod.py). -/
import Derived.Test.YtpoehckffpbfiaaGreatXAA1a
import Derived.KernelRfl
namespace Go.Proofs.YtpoehckffpbfiaaGreat
open Go Go.Ab
set_option linter.unusedSimpArgs false
set_option linter.unusedVariables false
set_option linter.unusedSectionVars false
set_option maxRecDepth 20000
set_option maxHeartbeats 1000000
noncomputable def board_Check_s1 (b : TBoard) (vv : Int) : Option (Int ⊕ (Int ⊕ Unit)) :=
 (bif (decide (vv < ((b.Defects.length : Nat) : Int))) then (Option.bind (getI b.Defects vv) (fun e1 => (bif (!(board_inside_g e1.b.x (board_length_g b.Box.x))) then some (Sum.inr (Sum.inl 9)) else (bif (!(board_inside_g e1.b.y (board_length_g b.Box.y))) then some (Sum.inr (Sum.inl 9)) else (bif (!(board_inside_g e1.b.z (board_length_g b.Box.z))) then some (Sum.inr (Sum.inl 9)) else some (Sum.inl (W64 (vv + 1)))))))) else some (Sum.inr (Sum.inr ())))
noncomputable def board_Check_g (b : TBoard) (c : (List TProduct)) : Option Int :=
 (Option.bind (product_Check_g c) (fun cv => (bif (cv != 0) then some cv else (Option.bind (ident_Is_g b.Id 66) (fun iv => (bif (!iv) then some 6 else (Option.bind (ident_Is_g b.Log 76) (fun iv1 => (bif (!iv1) then some 6 else (Option.bind (ident_IsName_g b.Species) (fun iv2 => (bif (!iv2) then some 6 else (bif (decide (b.Product < 0)) then some 8 else (bif (decide (((c.length : Nat) : Int) ≤ b.Product)) then some 8 else (Option.bind (board_isBox_g b.Box) (fun iv3 => (bif (!iv3) then some 19 else (Option.bind (getI c b.Product) (fun e => (letB (product_Green_g e) (fun gv => (Option.bind ((bif (!((board_length_g b.Box.x) == gv.1 && ((board_length_g b.Box.y) == gv.2 && true))) then (bif (!((board_length_g b.Box.x) == gv.2 && ((board_length_g b.Box.y) == gv.1 && true))) then some (Sum.inl 19) else some (Sum.inr ())) else some (Sum.inr ())) : Option (Int ⊕ Unit)) (Sum.elim (fun q => some q) (fun _ => (Option.bind (slices_Contains___int_int__g e.Lengths (board_length_g b.Box.z)) (fun cv1 => (bif (!cv1) then some 20 else (Option.bind (defect_Check_g b.Defects) (fun cv2 => (bif (cv2 != 0) then some cv2 else (Option.bind ((loopO (fun q => board_Check_s1 b q) 0) : Option (Int ⊕ Unit)) (Sum.elim (fun q => some q) (fun _ => (bif (decide (b.Volume < 0)) then some 9 else (Option.bind (board_Volume_g b) (fun vv1 => (bif (decide (vv1 < b.Volume)) then some 9 else (bif (decide (b.Wane < 0)) then some 9 else (bif (decide (1000 < b.Wane)) then some 9 else (bif (!(board_isMoist_g b.Cell.Surf)) then some 25 else (bif (!(board_isMoist_g b.Cell.Core)) then some 25 else (bif (decide (b.Cell.Stress < 0)) then some 25 else (bif (decide (1099511627776 < b.Cell.Stress)) then some 25 else (bif (decide (b.Grade < 0)) then some 26 else (bif (decide (9 < b.Grade)) then some 26 else some 0)))))))))))))))))))))))))))))))))))))))))))))
theorem board_Check_w (b : TBoard) (c : (List TProduct)) (r : Int) (h : board_Check_g b c = some r) : Holds Tryz.prog 9 [(encTBoard b), ((encL encTProduct) c)] [] (I r) [] := by
 unfold board_Check_g at h
 refine holds_fn Tryz.func9 rfl Tryz.ntmps9 rfl rfl rfl (fun lim => ?_)
 refine awp_seq (awp_go hmix (go_run' ttok 2 rfl (go_nil nd (then_norm (awp_seq (awp_seq (awp_go hmix (go_run' ttok 1 rfl ?_))))))))
 obtain ⟨cv, hv1, h⟩ := of_obind h
 refine go_call fn22 (product_Check_w c cv hv1) rfl rfl rfl rfl rfl rfl rfl ?_
 refine go_run' ttok 1 rfl (go_nil nd (then_norm (awp_seq (awp_go hmix (go_run' ttok 2 rfl (go_nil nd (then_norm ?_)))))))
 refine awp_cond (b := (cv != 0)) rfl (fun c2 => ?_) (fun c2 => ?_)
 ·replace h := of_bif_t h c2
  refine awp_seq (awp_go hmix (go_run' ttok 2 rfl (go_nil nd (then_norm (awp_ret (then_ret ?_))))))
  have e3 := of_some h
  subst e3
  refine ret_ret ?_
  refine fin0 ttok rfl rfl ?_
  exact (wkP_refl _ rfl)
 ·replace h := of_bif_f h c2
  refine awp_skip (then_norm (awp_seq (awp_seq (awp_go hmix (go_run' ttok 2 rfl ?_)))))
  obtain ⟨iv, hv4, h⟩ := of_obind h
  refine go_call fn24 (ident_Is_w b.Id 66 iv hv4) rfl rfl rfl rfl rfl rfl rfl ?_
  refine go_run' ttok 2 rfl ?_
  refine go_gcase rfl rfl rfl (fun g5 => ?_) (fun g5 => ?_)
  ·rw [g5]
   replace h := of_bif_t h g5
   refine go_run' ttok 11 rfl (go_nil nd (then_norm ?_))
   refine awp_cond rfl (fun tt0 => ?_) (fun h => by cases h)
   clear tt0
   refine awp_seq (awp_go hmix (go_run' ttok 1 rfl (go_nil nd (then_norm (awp_ret (then_ret ?_))))))
   have e6 := of_some h
   subst e6
   refine ret_ret ?_
   refine fin0 ttok rfl rfl ?_
   exact (wkP_refl _ rfl)
  ·rw [g5]
   replace h := of_bif_f h g5
   refine go_run' ttok 2 rfl ?_
   obtain ⟨iv1, hv7, h⟩ := of_obind h
   refine go_call fn24 (ident_Is_w b.Log 76 iv1 hv7) rfl rfl rfl rfl rfl rfl rfl ?_
   refine go_run' ttok 3 rfl ?_
   refine go_gcase rfl rfl rfl (fun g8 => ?_) (fun g8 => ?_)
   ·rw [g8]
    replace h := of_bif_t h g8
    refine go_run' ttok 5 rfl (go_nil nd (then_norm ?_))
    refine awp_cond rfl (fun tt0 => ?_) (fun h => by cases h)
    clear tt0
    refine awp_seq (awp_go hmix (go_run' ttok 1 rfl (go_nil nd (then_norm (awp_ret (then_ret ?_))))))
    have e9 := of_some h
    subst e9
    refine ret_ret ?_
    refine fin0 ttok rfl rfl ?_
    exact (wkP_refl _ rfl)
   ·rw [g8]
    replace h := of_bif_f h g8
    refine go_run' ttok 2 rfl ?_
    obtain ⟨iv2, hv10, h⟩ := of_obind h
    refine go_call fn25 (ident_IsName_w b.Species iv2 hv10) rfl rfl rfl rfl rfl rfl rfl ?_
    refine go_run' ttok 2 rfl (go_nil nd (then_norm ?_))
    refine awp_cond (b := (!iv2)) rfl (fun c11 => ?_) (fun c11 => ?_)
    ·replace h := of_bif_t h c11
     refine awp_seq (awp_go hmix (go_run' ttok 1 rfl (go_nil nd (then_norm (awp_ret (then_ret ?_))))))
     have e12 := of_some h
     subst e12
     refine ret_ret ?_
     refine fin0 ttok rfl rfl ?_
     exact (wkP_refl _ rfl)
    ·replace h := of_bif_f h c11
     refine awp_skip (then_norm (awp_seq (awp_seq (awp_go hmix (go_run' ttok 4 rfl ?_)))))
     refine go_gcase rfl rfl rfl (fun g13 => ?_) (fun g13 => ?_)
     ·rw [g13]
      replace h := of_bif_t h g13
      refine go_run' ttok 6 rfl (go_nil nd (then_norm ?_))
      refine awp_cond rfl (fun tt0 => ?_) (fun h => by cases h)
      clear tt0
      refine awp_seq (awp_go hmix (go_run' ttok 1 rfl (go_nil nd (then_norm (awp_ret (then_ret ?_))))))
      have e14 := of_some h
      subst e14
      refine ret_ret ?_
      refine fin0 ttok rfl rfl ?_
      exact (wkP_refl _ rfl)
     ·rw [g13]
      replace h := of_bif_f h g13
      refine go_run' ttok 3 rfl ?_
      refine go_lenT encTProduct c ttok rfl rfl rfl rfl rfl rfl ?_
      refine go_run' ttok 2 rfl (go_nil nd (then_norm ?_))
      refine awp_cond (b := (decide (((c.length : Nat) : Int) ≤ b.Product))) rfl (fun c15 => ?_) (fun c15 => ?_)
      ·replace h := of_bif_t h c15
       refine awp_seq (awp_go hmix (go_run' ttok 1 rfl (go_nil nd (then_norm (awp_ret (then_ret ?_))))))
       have e16 := of_some h
       subst e16
       refine ret_ret ?_
       refine fin0 ttok rfl rfl ?_
       exact (wkP_refl _ rfl)
      ·replace h := of_bif_f h c15
       refine awp_skip (then_norm (awp_seq (awp_seq (awp_go hmix (go_run' ttok 2 rfl ?_)))))
       obtain ⟨iv3, hv17, h⟩ := of_obind h
       refine go_call fn26 (board_isBox_w b.Box iv3 hv17) rfl rfl rfl rfl rfl rfl rfl ?_
       refine go_run' ttok 1 rfl (go_nil nd (then_norm ?_))
       refine awp_cond (b := (!iv3)) rfl (fun c18 => ?_) (fun c18 => ?_)
       ·replace h := of_bif_t h c18
        refine awp_seq (awp_go hmix (go_run' ttok 1 rfl (go_nil nd (then_norm (awp_ret (then_ret ?_))))))
        have e19 := of_some h
        subst e19
        refine ret_ret ?_
        refine fin0 ttok rfl rfl ?_
        exact (wkP_refl _ rfl)
       ·replace h := of_bif_f h c18
        refine awp_skip (then_norm (awp_seq (awp_go hmix (go_run' ttok 3 rfl ?_))))
        obtain ⟨e, hv20, h⟩ := of_obind h
        refine go_indexT encTProduct c b.Product e hv20 ttok rfl rfl rfl rfl rfl rfl rfl rfl rfl ?_
        refine go_run' ttok 3 rfl (go_nil nd (then_norm (awp_seq (awp_go hmix (go_run' ttok 3 rfl ?_)))))
        refine go_call fn27 (board_length_w b.Box.x _ rfl) rfl rfl rfl rfl rfl rfl rfl ?_
        refine go_run' ttok 3 rfl ?_
        refine go_call fn27 (board_length_w b.Box.y _ rfl) rfl rfl rfl rfl rfl rfl rfl ?_
        refine go_run' ttok 3 rfl ?_
        refine go_call fn27 (board_length_w b.Box.z _ rfl) rfl rfl rfl rfl rfl rfl rfl ?_
        refine go_run' ttok 3 rfl ?_
        refine go_nil (fun _ => by kernel_rfl) ?_
        refine then_norm (awp_seq (awp_go hmix (go_run' ttok 1 rfl ?_)))
        obtain ⟨gv, hv21, h⟩ := of_let h
        refine go_call fn28 (product_Green_w e gv hv21) rfl rfl rfl rfl rfl rfl rfl ?_
        refine go_run' ttok 5 rfl (go_nil nd (then_norm ?_))
        obtain ⟨y, hx22, h⟩ := of_obind h
        refine awp_seqJ (X := Unit) [2, 6, 7, 8, 9] [2, 6] (fun _ => []) (fun _ => []) (fun w => Sum.inr w = y) rfl rfl ?_ ?_
        ·skip
         refine awp_seq (awp_go hmix (go_run' ttok 5 rfl (go_nil nd (then_norm (awp_seq (awp_go hmix (go_run' ttok 4 rfl ?_)))))))
         refine go_step rfl (as_neArr2 Tryz.underlying67 ty3_ok rfl rfl (by kernel_rfl) rfl rfl rfl) rfl rfl rfl ?_
         refine go_run' ttok 1 rfl ?_
         refine go_gcase rfl rfl rfl (fun g24 => ?_) (fun g24 => ?_)
         ·rw [g24]
          replace hx22 := of_bif_t hx22 g24
          refine go_run' ttok 4 rfl ?_
          refine go_step rfl (as_neArr2 Tryz.underlying67 ty3_ok rfl rfl (by kernel_rfl) rfl rfl rfl) rfl rfl rfl ?_
          refine go_run' ttok 1 rfl (go_nil nd (then_norm ?_))
          refine awp_cond (b := (!((board_length_g b.Box.x) == gv.2 && ((board_length_g b.Box.y) == gv.1 && true)))) rfl (fun c25 => ?_) (fun c25 => ?_)
          ·replace hx22 := of_bif_t hx22 c25
           refine awp_seq (awp_go hmix (go_run' ttok 1 rfl (go_nil nd (then_norm (awp_ret ?_)))))
           obtain ⟨t, hn26, hq⟩ := of_mapl' hx22
           subst hq
           have hq := of_inl h
           replace hq := of_some hq
           subst hq
           refine then_ret ?_
           have e27 := of_some hn26
           subst e27
           refine ret_ret ?_
           refine fin0 ttok rfl rfl ?_
           exact (wkP_refl _ rfl)
          ·replace hx22 := of_bif_f hx22 c25
           refine awp_skip ?_
           have e28 := of_some hx22
           refine then_norm ⟨rfl, (), [(2, some 2), (6, some 6)], ⟨rfl, rfl, rfl, rfl, rfl, trivial, trivial⟩, e28⟩
         ·rw [g24]
          replace hx22 := of_bif_f hx22 g24
          refine go_run' ttok 6 rfl (go_nil nd (then_norm ?_))
          refine awp_cond rfl (fun h => by cases h) (fun tt0 => ?_)
          clear tt0
          refine awp_skip ?_
          have e29 := of_some hx22
          refine then_norm ⟨rfl, (), [(2, some 2), (6, some 6)], ⟨rfl, rfl, rfl, rfl, rfl, trivial, trivial⟩, e29⟩
        ·intro w hw23
         subst hw23
         replace h := of_inr h
         refine awp_seq (awp_seq (awp_go hmix (go_run' ttok 3 rfl ?_)))
         obtain ⟨cv1, hv30, h⟩ := of_obind h
         refine go_call fn29 (slices_Contains___int_int__w e.Lengths (board_length_g b.Box.z) cv1 hv30) rfl rfl rfl rfl rfl rfl rfl ?_
         refine go_run' ttok 1 rfl (go_nil nd (then_norm ?_))
         refine awp_cond (b := (!cv1)) rfl (fun c31 => ?_) (fun c31 => ?_)
         ·replace h := of_bif_t h c31
          refine awp_seq (awp_go hmix (go_run' ttok 1 rfl (go_nil nd (then_norm (awp_ret (then_ret ?_))))))
          have e32 := of_some h
          subst e32
          refine ret_ret ?_
          refine fin0 ttok rfl rfl ?_
          exact (wkP_refl _ rfl)
         ·replace h := of_bif_f h c31
          refine awp_skip (then_norm (awp_seq (awp_seq (awp_go hmix (go_run' ttok 2 rfl ?_)))))
          obtain ⟨cv2, hv33, h⟩ := of_obind h
          refine go_call fn30 (defect_Check_w b.Defects cv2 hv33) rfl rfl rfl rfl rfl rfl rfl ?_
          refine go_run' ttok 1 rfl (go_nil nd (then_norm (awp_seq (awp_go hmix (go_run' ttok 2 rfl (go_nil nd (then_norm ?_)))))))
          refine awp_cond (b := (cv2 != 0)) rfl (fun c34 => ?_) (fun c34 => ?_)
          ·replace h := of_bif_t h c34
           refine awp_seq (awp_go hmix (go_run' ttok 2 rfl (go_nil nd (then_norm (awp_ret (then_ret ?_))))))
           have e35 := of_some h
           subst e35
           refine ret_ret ?_
           refine fin0 ttok rfl rfl ?_
           exact (wkP_refl _ rfl)
          ·replace h := of_bif_f h c34
           refine awp_skip (then_norm ?_)
           obtain ⟨y1, hx36, h⟩ := of_obind h
           refine awp_seqJ (X := Unit) [2] [2] (fun _ => []) (fun _ => []) (fun w1 => Sum.inr w1 = y1) rfl rfl ?_ ?_
           ·skip
            refine awp_seq (awp_go hmix (go_run' ttok 2 rfl ?_))
            refine go_lenT encDf b.Defects ttok rfl rfl rfl rfl rfl rfl ?_
            refine go_run' ttok 1 rfl (go_nil nd (then_norm (awp_block ?_)))
            refine awp_loopD (X := Int) (Y := (Int ⊕ Unit)) [2, 7, 8, 9, 100, 101] [2] (fun q => [(102, (I q))]) (fun q => []) (fun q => board_Check_s1 b q) 0 [(2, some 2)] hx36 ⟨rfl, rfl, rfl, rfl, rfl, ⟨wkP_id _ rfl, trivial⟩, trivial⟩ (fun vv vR vz hz38 hk39 => ?_)
            change board_Check_s1 b vv = _ at hz38
            unfold board_Check_s1 at hz38
            refine awp_seq (awp_go hmix (go_run' ttok 1 rfl (go_nil nd (then_norm (awp_seq ?_)))))
            refine awp_cond (b := (decide (vv < ((b.Defects.length : Nat) : Int)))) rfl (fun c40 => ?_) (fun c40 => ?_)
            ·replace hz38 := of_bif_t hz38 c40
             refine awp_skip (then_norm (awp_seq (awp_block (awp_seq (awp_go hmix ?_)))))
             obtain ⟨e1, hv41, hz38⟩ := of_obind hz38
             refine go_indexT encDf b.Defects vv e1 hv41 ttok rfl rfl rfl rfl rfl rfl rfl rfl rfl ?_
             refine go_run' ttok 3 rfl (go_nil nd (then_norm (awp_seq (awp_go hmix (go_run' ttok 4 rfl ?_)))))
             refine go_call fn31 (board_inside_w e1.b.x (board_length_g b.Box.x) _ rfl) rfl rfl rfl rfl rfl rfl rfl ?_
             refine go_run' ttok 2 rfl ?_
             refine go_gcase rfl rfl rfl (fun g42 => ?_) (fun g42 => ?_)
             ·rw [g42]
              replace hz38 := of_bif_t hz38 g42
              refine go_run' ttok 15 rfl (go_nil nd (then_norm ?_))
              refine awp_cond rfl (fun tt0 => ?_) (fun h => by cases h)
              clear tt0
              refine awp_seq (awp_go hmix (go_run' ttok 1 rfl (go_nil nd (then_norm (awp_ret (block_ret (then_ret ?_)))))))
              obtain ⟨t1, hn43, hq⟩ := of_mapr' hz38
              subst hq
              have hq : t1 = _ := hk39
              subst hq
              refine then_ret (block_ret ?_)
              obtain ⟨t2, hn44, hq⟩ := of_mapl' hn43
              subst hq
              have hq := of_inl h
              replace hq := of_some hq
              subst hq
              refine then_ret ?_
              have e45 := of_some hn44
              subst e45
              refine ret_ret ?_
              refine fin0 ttok rfl rfl ?_
              exact (wkP_refl _ rfl)
             ·rw [g42]
              replace hz38 := of_bif_f hz38 g42
              refine go_run' ttok 4 rfl ?_
              refine go_call fn31 (board_inside_w e1.b.y (board_length_g b.Box.y) _ rfl) rfl rfl rfl rfl rfl rfl rfl ?_
              refine go_run' ttok 3 rfl ?_
              refine go_gcase rfl rfl rfl (fun g46 => ?_) (fun g46 => ?_)
              ·rw [g46]
               replace hz38 := of_bif_t hz38 g46
               refine go_run' ttok 7 rfl (go_nil nd (then_norm ?_))
               refine awp_cond rfl (fun tt0 => ?_) (fun h => by cases h)
               clear tt0
               refine awp_seq (awp_go hmix (go_run' ttok 1 rfl (go_nil nd (then_norm (awp_ret (block_ret (then_ret ?_)))))))
               obtain ⟨t3, hn47, hq⟩ := of_mapr' hz38
               subst hq
               have hq : t3 = _ := hk39
               subst hq
               refine then_ret (block_ret ?_)
               obtain ⟨t4, hn48, hq⟩ := of_mapl' hn47
               subst hq
               have hq := of_inl h
               replace hq := of_some hq
               subst hq
               refine then_ret ?_
               have e49 := of_some hn48
               subst e49
               refine ret_ret ?_
               refine fin0 ttok rfl rfl ?_
               exact (wkP_refl _ rfl)
              ·rw [g46]
               replace hz38 := of_bif_f hz38 g46
               refine go_run' ttok 4 rfl ?_
               refine go_call fn31 (board_inside_w e1.b.z (board_length_g b.Box.z) _ rfl) rfl rfl rfl rfl rfl rfl rfl ?_
               refine go_run' ttok 2 rfl (go_nil nd (then_norm ?_))
               refine awp_cond (b := (!(board_inside_g e1.b.z (board_length_g b.Box.z)))) rfl (fun c50 => ?_) (fun c50 => ?_)
               ·replace hz38 := of_bif_t hz38 c50
                refine awp_seq (awp_go hmix (go_run' ttok 1 rfl (go_nil nd (then_norm (awp_ret (block_ret (then_ret ?_)))))))
                obtain ⟨t5, hn51, hq⟩ := of_mapr' hz38
                subst hq
                have hq : t5 = _ := hk39
                subst hq
                refine then_ret (block_ret ?_)
                obtain ⟨t6, hn52, hq⟩ := of_mapl' hn51
                subst hq
                have hq := of_inl h
                replace hq := of_some hq
                subst hq
                refine then_ret ?_
                have e53 := of_some hn52
                subst e53
                refine ret_ret ?_
                refine fin0 ttok rfl rfl ?_
                exact (wkP_refl _ rfl)
               ·replace hz38 := of_bif_f hz38 c50
                refine awp_skip (block_norm (then_norm (awp_go hmix (go_run' ttok 2 rfl (go_nil nd ?_)))))
                have e54 := of_some hz38
                subst e54
                refine then_norm ⟨rfl, (W64 (vv + 1)), [(2, some 2)], ⟨rfl, rfl, rfl, rfl, rfl, ⟨wkP_id _ rfl, trivial⟩, trivial⟩, hk39⟩
            ·replace hz38 := of_bif_f hz38 c40
             refine awp_exit (then_exit ?_)
             obtain ⟨t7, hn55, hq⟩ := of_mapr' hz38
             subst hq
             have hq : t7 = _ := hk39
             subst hq
             refine then_exit (block_here ?_)
             have e56 := of_some hn55
             refine then_norm ⟨rfl, (), [(2, some 2)], ⟨rfl, rfl, rfl, rfl, rfl, trivial, trivial⟩, e56⟩
           ·intro w1 hw37
            subst hw37
            replace h := of_inr h
            refine awp_seq (awp_seq (awp_go hmix (go_run' ttok 4 rfl ?_)))
            refine go_gcase rfl rfl rfl (fun g57 => ?_) (fun g57 => ?_)
            ·rw [g57]
             replace h := of_bif_t h g57
             refine go_run' ttok 16 rfl ?_
             refine go_nil (fun _ => by kernel_rfl) ?_
             refine then_norm ?_
             refine awp_cond rfl (fun tt0 => ?_) (fun h => by cases h)
             clear tt0
             refine awp_seq (awp_go hmix (go_run' ttok 1 rfl (go_nil nd (then_norm (awp_ret (then_ret ?_))))))
             have e58 := of_some h
             subst e58
             refine ret_ret ?_
             refine fin0 ttok rfl rfl ?_
             exact (wkP_refl _ rfl)
            ·rw [g57]
             replace h := of_bif_f h g57
             refine go_run' ttok 3 rfl ?_
             obtain ⟨vv1, hv59, h⟩ := of_obind h
             refine go_call fn32 (board_Volume_w b vv1 hv59) rfl rfl rfl rfl rfl rfl rfl ?_
             refine go_run' ttok 3 rfl ?_
             refine go_gcase rfl rfl rfl (fun g60 => ?_) (fun g60 => ?_)
             ·rw [g60]
              replace h := of_bif_t h g60
              refine go_run' ttok 9 rfl ?_
              refine go_nil (fun _ => by kernel_rfl) ?_
              refine then_norm ?_
              refine awp_cond rfl (fun tt0 => ?_) (fun h => by cases h)
              clear tt0
              refine awp_seq (awp_go hmix (go_run' ttok 1 rfl (go_nil nd (then_norm (awp_ret (then_ret ?_))))))
              have e61 := of_some h
              subst e61
              refine ret_ret ?_
              refine fin0 ttok rfl rfl ?_
              exact (wkP_refl _ rfl)
             ·rw [g60]
              replace h := of_bif_f h g60
              refine go_run' ttok 5 rfl ?_
              refine go_gcase rfl rfl rfl (fun g62 => ?_) (fun g62 => ?_)
              ·rw [g62]
               replace h := of_bif_t h g62
               refine go_run' ttok 4 rfl ?_
               refine go_nil (fun _ => by kernel_rfl) ?_
               refine then_norm ?_
               refine awp_cond rfl (fun tt0 => ?_) (fun h => by cases h)
               clear tt0
               refine awp_seq (awp_go hmix (go_run' ttok 1 rfl (go_nil nd (then_norm (awp_ret (then_ret ?_))))))
               have e63 := of_some h
               subst e63
               refine ret_ret ?_
               refine fin0 ttok rfl rfl ?_
               exact (wkP_refl _ rfl)
              ·rw [g62]
               replace h := of_bif_f h g62
               refine go_run' ttok 4 rfl ?_
               refine go_nil (fun _ => by kernel_rfl) ?_
               refine then_norm ?_
               refine awp_cond (b := (decide (1000 < b.Wane))) rfl (fun c64 => ?_) (fun c64 => ?_)
               ·replace h := of_bif_t h c64
                refine awp_seq (awp_go hmix (go_run' ttok 1 rfl (go_nil nd (then_norm (awp_ret (then_ret ?_))))))
                have e65 := of_some h
                subst e65
                refine ret_ret ?_
                refine fin0 ttok rfl rfl ?_
                exact (wkP_refl _ rfl)
               ·replace h := of_bif_f h c64
                refine awp_skip (then_norm (awp_seq (awp_seq (awp_go hmix (go_run' ttok 3 rfl ?_)))))
                refine go_call fn33 (board_isMoist_w b.Cell.Surf _ rfl) rfl rfl rfl rfl rfl rfl rfl ?_
                refine go_run' ttok 2 rfl ?_
                refine go_gcase rfl rfl rfl (fun g66 => ?_) (fun g66 => ?_)
                ·rw [g66]
                 replace h := of_bif_t h g66
                 refine go_run' ttok 18 rfl (go_nil nd (then_norm ?_))
                 refine awp_cond rfl (fun tt0 => ?_) (fun h => by cases h)
                 clear tt0
                 refine awp_seq (awp_go hmix (go_run' ttok 1 rfl (go_nil nd (then_norm (awp_ret (then_ret ?_))))))
                 have e67 := of_some h
                 subst e67
                 refine ret_ret ?_
                 refine fin0 ttok rfl rfl ?_
                 exact (wkP_refl _ rfl)
                ·rw [g66]
                 replace h := of_bif_f h g66
                 refine go_run' ttok 3 rfl ?_
                 refine go_call fn33 (board_isMoist_w b.Cell.Core _ rfl) rfl rfl rfl rfl rfl rfl rfl ?_
                 refine go_run' ttok 3 rfl ?_
                 refine go_gcase rfl rfl rfl (fun g68 => ?_) (fun g68 => ?_)
                 ·rw [g68]
                  replace h := of_bif_t h g68
                  refine go_run' ttok 11 rfl (go_nil nd (then_norm ?_))
                  refine awp_cond rfl (fun tt0 => ?_) (fun h => by cases h)
                  clear tt0
                  refine awp_seq (awp_go hmix (go_run' ttok 1 rfl (go_nil nd (then_norm (awp_ret (then_ret ?_))))))
                  have e69 := of_some h
                  subst e69
                  refine ret_ret ?_
                  refine fin0 ttok rfl rfl ?_
                  exact (wkP_refl _ rfl)
                 ·rw [g68]
                  replace h := of_bif_f h g68
                  refine go_run' ttok 6 rfl ?_
                  refine go_gcase rfl rfl rfl (fun g70 => ?_) (fun g70 => ?_)
                  ·rw [g70]
                   replace h := of_bif_t h g70
                   refine go_run' ttok 5 rfl (go_nil nd (then_norm ?_))
                   refine awp_cond rfl (fun tt0 => ?_) (fun h => by cases h)
                   clear tt0
                   refine awp_seq (awp_go hmix (go_run' ttok 1 rfl (go_nil nd (then_norm (awp_ret (then_ret ?_))))))
                   have e71 := of_some h
                   subst e71
                   refine ret_ret ?_
                   refine fin0 ttok rfl rfl ?_
                   exact (wkP_refl _ rfl)
                  ·rw [g70]
                   replace h := of_bif_f h g70
                   refine go_run' ttok 5 rfl (go_nil nd (then_norm ?_))
                   refine awp_cond (b := (decide (1099511627776 < b.Cell.Stress))) rfl (fun c72 => ?_) (fun c72 => ?_)
                   ·replace h := of_bif_t h c72
                    refine awp_seq (awp_go hmix (go_run' ttok 1 rfl (go_nil nd (then_norm (awp_ret (then_ret ?_))))))
                    have e73 := of_some h
                    subst e73
                    refine ret_ret ?_
                    refine fin0 ttok rfl rfl ?_
                    exact (wkP_refl _ rfl)
                   ·replace h := of_bif_f h c72
                    refine awp_skip (then_norm (awp_seq (awp_seq (awp_go hmix (go_run' ttok 4 rfl ?_)))))
                    refine go_gcase rfl rfl rfl (fun g74 => ?_) (fun g74 => ?_)
                    ·rw [g74]
                     replace h := of_bif_t h g74
                     refine go_run' ttok 4 rfl (go_nil nd (then_norm ?_))
                     refine awp_cond rfl (fun tt0 => ?_) (fun h => by cases h)
                     clear tt0
                     refine awp_seq (awp_go hmix (go_run' ttok 1 rfl (go_nil nd (then_norm (awp_ret (then_ret ?_))))))
                     have e75 := of_some h
                     subst e75
                     refine ret_ret ?_
                     refine fin0 ttok rfl rfl ?_
                     exact (wkP_refl _ rfl)
                    ·rw [g74]
                     replace h := of_bif_f h g74
                     refine go_run' ttok 4 rfl (go_nil nd (then_norm ?_))
                     refine awp_cond (b := (decide (9 < b.Grade))) rfl (fun c76 => ?_) (fun c76 => ?_)
                     ·replace h := of_bif_t h c76
                      refine awp_seq (awp_go hmix (go_run' ttok 1 rfl (go_nil nd (then_norm (awp_ret (then_ret ?_))))))
                      have e77 := of_some h
                      subst e77
                      refine ret_ret ?_
                      refine fin0 ttok rfl rfl ?_
                      exact (wkP_refl _ rfl)
                     ·replace h := of_bif_f h c76
                      refine awp_skip (then_norm (awp_seq (awp_go hmix (go_run' ttok 1 rfl (go_nil nd (then_norm (awp_ret ?_)))))))
                      have e78 := of_some h
                      subst e78
                      refine ret_ret ?_
                      refine fin0 ttok rfl rfl ?_
                      exact (wkP_refl _ rfl)
noncomputable def board_Check_cs1 (N : Nat) (b : TBoard) (vv : Int) : Option (Int ⊕ (Int ⊕ Unit)) :=
 (bif (decide (vv < ((b.Defects.length : Nat) : Int))) then (Option.bind (getI b.Defects vv) (fun e1 => (bif (!(board_inside_g e1.b.x (board_length_g b.Box.x))) then some (Sum.inr (Sum.inl 9)) else (bif (!(board_inside_g e1.b.y (board_length_g b.Box.y))) then some (Sum.inr (Sum.inl 9)) else (bif (!(board_inside_g e1.b.z (board_length_g b.Box.z))) then some (Sum.inr (Sum.inl 9)) else some (Sum.inl (W64 (vv + 1)))))))) else some (Sum.inr (Sum.inr ())))
theorem board_Check_cs1_le (N : Nat) (b : TBoard) (vv : Int) : OLe (board_Check_cs1 N b vv) (board_Check_s1 b vv) := by
 unfold board_Check_cs1 board_Check_s1
 repeat' (first | exact ole_rfl | exact product_Check_le _ _ | exact ident_Is_le _ _ _ | exact ident_IsName_le _ _ | exact board_isBox_le _ _ | exact slices_Contains___int_int__le _ _ _ | exact defect_Check_le _ _ | exact board_Volume_le _ _ | refine ole_bif ?_ ?_ | refine ole_bind ?_ (fun _ => ?_) | refine ole_let (fun _ => ?_) | refine ole_map ?_ | refine ole_elim (fun _ => ?_) (fun _ => ?_) | refine ole_loop (fun _ => ?_))
noncomputable def board_Check_c (N : Nat) (b : TBoard) (c : (List TProduct)) : Option Int :=
 (Option.bind ((product_Check_c N) c) (fun cv => (bif (cv != 0) then some cv else (Option.bind ((ident_Is_c N) b.Id 66) (fun iv => (bif (!iv) then some 6 else (Option.bind ((ident_Is_c N) b.Log 76) (fun iv1 => (bif (!iv1) then some 6 else (Option.bind ((ident_IsName_c N) b.Species) (fun iv2 => (bif (!iv2) then some 6 else (bif (decide (b.Product < 0)) then some 8 else (bif (decide (((c.length : Nat) : Int) ≤ b.Product)) then some 8 else (Option.bind ((board_isBox_c N) b.Box) (fun iv3 => (bif (!iv3) then some 19 else (Option.bind (getI c b.Product) (fun e => (letB (product_Green_g e) (fun gv => (Option.bind ((bif (!((board_length_g b.Box.x) == gv.1 && ((board_length_g b.Box.y) == gv.2 && true))) then (bif (!((board_length_g b.Box.x) == gv.2 && ((board_length_g b.Box.y) == gv.1 && true))) then some (Sum.inl 19) else some (Sum.inr ())) else some (Sum.inr ())) : Option (Int ⊕ Unit)) (Sum.elim (fun q => some q) (fun _ => (Option.bind ((slices_Contains___int_int__c N) e.Lengths (board_length_g b.Box.z)) (fun cv1 => (bif (!cv1) then some 20 else (Option.bind ((defect_Check_c N) b.Defects) (fun cv2 => (bif (cv2 != 0) then some cv2 else (Option.bind ((iterX N (fun q => board_Check_cs1 N b q) 0) : Option (Int ⊕ Unit)) (Sum.elim (fun q => some q) (fun _ => (bif (decide (b.Volume < 0)) then some 9 else (Option.bind ((board_Volume_c N) b) (fun vv1 => (bif (decide (vv1 < b.Volume)) then some 9 else (bif (decide (b.Wane < 0)) then some 9 else (bif (decide (1000 < b.Wane)) then some 9 else (bif (!(board_isMoist_g b.Cell.Surf)) then some 25 else (bif (!(board_isMoist_g b.Cell.Core)) then some 25 else (bif (decide (b.Cell.Stress < 0)) then some 25 else (bif (decide (1099511627776 < b.Cell.Stress)) then some 25 else (bif (decide (b.Grade < 0)) then some 26 else (bif (decide (9 < b.Grade)) then some 26 else some 0)))))))))))))))))))))))))))))))))))))))))))))
theorem board_Check_le (N : Nat) (b : TBoard) (c : (List TProduct)) : OLe (board_Check_c N b c) (board_Check_g b c) := by
 unfold board_Check_c board_Check_g
 repeat' (first | exact ole_rfl | exact product_Check_le _ _ | exact ident_Is_le _ _ _ | exact ident_IsName_le _ _ | exact board_isBox_le _ _ | exact slices_Contains___int_int__le _ _ _ | exact defect_Check_le _ _ | exact board_Volume_le _ _ | exact board_Check_cs1_le _ _ _ | refine ole_bif ?_ ?_ | refine ole_bind ?_ (fun _ => ?_) | refine ole_let (fun _ => ?_) | refine ole_map ?_ | refine ole_elim (fun _ => ?_) (fun _ => ?_) | refine ole_loop (fun _ => ?_))
noncomputable def r02_digit_g (c : Int) : Bool :=
 (bif (decide (48 ≤ c)) then (decide (c ≤ 57)) else false)
theorem r02_digit_w (c : Int) (r : Bool) (h : r02_digit_g c = r) : Holds Tryz.prog 72 [(U8 c)] [] (B r) [] := by
 unfold r02_digit_g at h
 refine holds_fn Tryz.func72 rfl Tryz.ntmps72 rfl rfl rfl (fun lim => ?_)
 refine awp_seq (awp_go hmix (go_run' ttok 1 rfl (go_nil nd (then_norm (awp_seq (awp_go hmix (go_run' ttok 3 rfl ?_)))))))
 refine go_gcase rfl rfl rfl (fun g1 => ?_) (fun g1 => ?_)
 ·rw [g1]
  replace h := of_bif_t h g1
  refine go_run' ttok 4 rfl (go_nil nd (then_norm (awp_ret ?_)))
  have e2 := h
  subst e2
  refine ret_ret ?_
  refine fin0 ttok rfl rfl ?_
  exact (wkP_refl _ rfl)
 ·rw [g1]
  replace h := of_bif_f h g1
  refine go_run' ttok 4 rfl (go_nil nd (then_norm (awp_ret ?_)))
  have e3 := h
  subst e3
  refine ret_ret ?_
  refine fin0 ttok rfl rfl ?_
  exact (wkP_refl _ rfl)
noncomputable def r02_IsName_s1 (s : ByteArray) (i : Int) : Option (Int ⊕ (Bool ⊕ Unit)) :=
 (bif (decide (i < ((s.size : Nat) : Int))) then (Option.bind ((Option.bind (bytO s i) (fun c => (bif (decide (97 ≤ c)) then (Option.bind (bytO s i) (fun c1 => some (decide (c1 ≤ 122)))) else some false))) : Option Bool) (fun letter => (bif (!letter) then (bif (i == 0) then some (Sum.inr (Sum.inl false)) else (Option.bind (bytO s i) (fun c2 => (bif (c2 != 95) then (Option.bind (bytO s i) (fun c3 => (bif (!(r02_digit_g c3)) then some (Sum.inr (Sum.inl false)) else some (Sum.inl (W64 (i + 1)))))) else some (Sum.inl (W64 (i + 1))))))) else some (Sum.inl (W64 (i + 1)))))) else some (Sum.inr (Sum.inr ())))
noncomputable def r02_IsName_g (s : ByteArray) : Option Bool :=
 (bif (decide (((s.size : Nat) : Int) < 1)) then some false else (bif (decide (16 < ((s.size : Nat) : Int))) then some false else (Option.bind ((loopO (fun q => r02_IsName_s1 s q) 0) : Option (Bool ⊕ Unit)) (Sum.elim (fun q => some q) (fun _ => some true)))))
theorem r02_IsName_w (s : ByteArray) (r : Bool) (h : r02_IsName_g s = some r) : Holds Tryz.prog 21 [(S s)] [] (B r) [] := by
 unfold r02_IsName_g at h
 refine holds_fn Tryz.func21 rfl Tryz.ntmps21 rfl rfl rfl (fun lim => ?_)
 refine awp_seq (awp_go hmix (go_run' ttok 1 rfl (go_nil nd (then_norm (awp_seq (awp_seq (awp_go hmix (go_run' ttok 4 rfl ?_))))))))
 refine go_gcase rfl rfl rfl (fun g1 => ?_) (fun g1 => ?_)
 ·rw [g1]
  replace h := of_bif_t h g1
  refine go_run' ttok 4 rfl (go_nil nd (then_norm ?_))
  refine awp_cond rfl (fun tt0 => ?_) (fun h => by cases h)
  clear tt0
  refine awp_seq (awp_go hmix (go_run' ttok 1 rfl (go_nil nd (then_norm (awp_ret (then_ret ?_))))))
  have e2 := of_some h
  subst e2
  refine ret_ret ?_
  refine fin0 ttok rfl rfl ?_
  exact (wkP_refl _ rfl)
 ·rw [g1]
  replace h := of_bif_f h g1
  refine go_run' ttok 4 rfl (go_nil nd (then_norm ?_))
  refine awp_cond (b := (decide (16 < ((s.size : Nat) : Int)))) rfl (fun c3 => ?_) (fun c3 => ?_)
  ·replace h := of_bif_t h c3
   refine awp_seq (awp_go hmix (go_run' ttok 1 rfl (go_nil nd (then_norm (awp_ret (then_ret ?_))))))
   have e4 := of_some h
   subst e4
   refine ret_ret ?_
   refine fin0 ttok rfl rfl ?_
   exact (wkP_refl _ rfl)
  ·replace h := of_bif_f h c3
   refine awp_skip (then_norm ?_)
   obtain ⟨y, hx5, h⟩ := of_obind h
   refine awp_seqJ (X := Unit) [] [] (fun _ => []) (fun _ => []) (fun w => Sum.inr w = y) rfl rfl ?_ ?_
   ·skip
    refine awp_seq (awp_go hmix (go_run' ttok 1 rfl (go_nil nd (then_norm (awp_block ?_)))))
    refine awp_loopD (X := Int) (Y := (Bool ⊕ Unit)) [0] [] (fun q => [(3, (I q))]) (fun q => []) (fun q => r02_IsName_s1 s q) 0 [] hx5 ⟨rfl, rfl, rfl, rfl, rfl, ⟨wkP_id _ rfl, trivial⟩, trivial⟩ (fun i vR vz hz7 hk8 => ?_)
    change r02_IsName_s1 s i = _ at hz7
    unfold r02_IsName_s1 at hz7
    refine awp_seq (awp_seq (awp_go hmix (go_run' ttok 4 rfl (go_nil nd (then_norm ?_)))))
    refine awp_cond (b := (decide (i < ((s.size : Nat) : Int)))) rfl (fun c9 => ?_) (fun c9 => ?_)
    ·replace hz7 := of_bif_t hz7 c9
     refine awp_skip (then_norm (awp_seq (awp_block ?_)))
     obtain ⟨y1, hx10, hz7⟩ := of_obind hz7
     refine awp_seqJ (X := Bool) [0, 3] [] (fun w1 => [(4, (B w1))]) (fun w1 => []) (fun w1 => w1 = y1) rfl rfl ?_ ?_
     ·skip
      refine awp_go hmix (go_run' ttok 2 rfl ?_)
      obtain ⟨c, hv12, hx10⟩ := of_obind hx10
      refine go_indexB s i c hv12 ttok rfl rfl rfl rfl rfl rfl rfl ?_
      refine go_run' ttok 2 rfl ?_
      refine go_gcase rfl rfl rfl (fun g13 => ?_) (fun g13 => ?_)
      ·rw [g13]
       replace hx10 := of_bif_t hx10 g13
       refine go_run' ttok 2 rfl ?_
       obtain ⟨c1, hv14, hx10⟩ := of_obind hx10
       refine go_indexB s i c1 hv14 ttok rfl rfl rfl rfl rfl rfl rfl ?_
       refine go_run' ttok 3 rfl (go_nil nd ?_)
       have e15 := of_some hx10
       refine then_norm ⟨rfl, (decide (c1 ≤ 122)), [], ⟨rfl, rfl, rfl, rfl, rfl, ⟨wkP_id _ rfl, trivial⟩, trivial⟩, e15⟩
      ·rw [g13]
       replace hx10 := of_bif_f hx10 g13
       refine go_run' ttok 6 rfl (go_nil nd ?_)
       have e16 := of_some hx10
       refine then_norm ⟨rfl, false, [], ⟨rfl, rfl, rfl, rfl, rfl, ⟨wkP_id _ rfl, trivial⟩, trivial⟩, e16⟩
     ·intro letter hw11
      subst hw11
      refine awp_seq (awp_go hmix (go_run' ttok 3 rfl ?_))
      refine go_gcase rfl rfl rfl (fun g17 => ?_) (fun g17 => ?_)
      ·rw [g17]
       replace hz7 := of_bif_t hz7 g17
       refine go_run' ttok 3 rfl ?_
       refine go_gcase rfl rfl rfl (fun g18 => ?_) (fun g18 => ?_)
       ·rw [g18]
        replace hz7 := of_bif_t hz7 g18
        refine go_run' ttok 13 rfl (go_nil nd (then_norm ?_))
        refine awp_cond rfl (fun tt0 => ?_) (fun h => by cases h)
        clear tt0
        refine awp_seq (awp_go hmix (go_run' ttok 1 rfl (go_nil nd (then_norm (awp_ret (block_ret (then_ret ?_)))))))
        obtain ⟨t, hn19, hq⟩ := of_mapr' hz7
        subst hq
        have hq : t = _ := hk8
        subst hq
        refine then_ret (block_ret ?_)
        obtain ⟨t1, hn20, hq⟩ := of_mapl' hn19
        subst hq
        have hq := of_inl h
        replace hq := of_some hq
        subst hq
        refine then_ret ?_
        have e21 := of_some hn20
        subst e21
        refine ret_ret ?_
        refine fin0 ttok rfl rfl ?_
        exact (wkP_refl _ rfl)
       ·rw [g18]
        replace hz7 := of_bif_f hz7 g18
        refine go_run' ttok 2 rfl ?_
        obtain ⟨c2, hv22, hz7⟩ := of_obind hz7
        refine go_indexB s i c2 hv22 ttok rfl rfl rfl rfl rfl rfl rfl ?_
        refine go_run' ttok 2 rfl ?_
        refine go_gcase rfl rfl rfl (fun g23 => ?_) (fun g23 => ?_)
        ·rw [g23]
         replace hz7 := of_bif_t hz7 g23
         refine go_run' ttok 2 rfl ?_
         obtain ⟨c3, hv24, hz7⟩ := of_obind hz7
         refine go_indexB s i c3 hv24 ttok rfl rfl rfl rfl rfl rfl rfl ?_
         refine go_call fn72 (r02_digit_w c3 _ rfl) rfl rfl rfl rfl rfl rfl rfl ?_
         refine go_run' ttok 4 rfl (go_nil nd (then_norm ?_))
         refine awp_cond (b := (!(r02_digit_g c3))) rfl (fun c25 => ?_) (fun c25 => ?_)
         ·replace hz7 := of_bif_t hz7 c25
          refine awp_seq (awp_go hmix (go_run' ttok 1 rfl (go_nil nd (then_norm (awp_ret (block_ret (then_ret ?_)))))))
          obtain ⟨t2, hn26, hq⟩ := of_mapr' hz7
          subst hq
          have hq : t2 = _ := hk8
          subst hq
          refine then_ret (block_ret ?_)
          obtain ⟨t3, hn27, hq⟩ := of_mapl' hn26
          subst hq
          have hq := of_inl h
          replace hq := of_some hq
          subst hq
          refine then_ret ?_
          have e28 := of_some hn27
          subst e28
          refine ret_ret ?_
          refine fin0 ttok rfl rfl ?_
          exact (wkP_refl _ rfl)
         ·replace hz7 := of_bif_f hz7 c25
          refine awp_skip (block_norm (then_norm (awp_go hmix (go_run' ttok 3 rfl (go_nil nd ?_)))))
          have e29 := of_some hz7
          subst e29
          refine then_norm ⟨rfl, (W64 (i + 1)), [], ⟨rfl, rfl, rfl, rfl, rfl, ⟨wkP_id _ rfl, trivial⟩, trivial⟩, hk8⟩
        ·rw [g23]
         replace hz7 := of_bif_f hz7 g23
         refine go_run' ttok 8 rfl (go_nil nd (then_norm ?_))
         refine awp_cond rfl (fun h => by cases h) (fun tt0 => ?_)
         clear tt0
         refine awp_skip (block_norm (then_norm (awp_go hmix (go_run' ttok 3 rfl (go_nil nd ?_)))))
         have e30 := of_some hz7
         subst e30
         refine then_norm ⟨rfl, (W64 (i + 1)), [], ⟨rfl, rfl, rfl, rfl, rfl, ⟨wkP_id _ rfl, trivial⟩, trivial⟩, hk8⟩
      ·rw [g17]
       replace hz7 := of_bif_f hz7 g17
       refine go_run' ttok 16 rfl (go_nil nd (then_norm ?_))
       refine awp_cond rfl (fun h => by cases h) (fun tt0 => ?_)
       clear tt0
       refine awp_skip (block_norm (then_norm (awp_go hmix (go_run' ttok 3 rfl (go_nil nd ?_)))))
       have e31 := of_some hz7
       subst e31
       refine then_norm ⟨rfl, (W64 (i + 1)), [], ⟨rfl, rfl, rfl, rfl, rfl, ⟨wkP_id _ rfl, trivial⟩, trivial⟩, hk8⟩
    ·replace hz7 := of_bif_f hz7 c9
     refine awp_exit (then_exit ?_)
     obtain ⟨t4, hn32, hq⟩ := of_mapr' hz7
     subst hq
     have hq : t4 = _ := hk8
     subst hq
     refine then_exit (block_here ?_)
     have e33 := of_some hn32
     refine then_norm ⟨rfl, (), [], ⟨rfl, rfl, rfl, rfl, rfl, trivial, trivial⟩, e33⟩
   ·intro w hw6
    subst hw6
    replace h := of_inr h
    refine awp_seq (awp_go hmix (go_run' ttok 1 rfl (go_nil nd (then_norm (awp_ret ?_)))))
    have e34 := of_some h
    subst e34
    refine ret_ret ?_
    refine fin0 ttok rfl rfl ?_
    exact (wkP_refl _ rfl)
noncomputable def r19_sized_g (p : TProduct) : Bool :=
 (bif (decide (1 ≤ p.Thick)) then (bif (decide (p.Thick ≤ 600)) then (bif (decide (1 ≤ p.Width)) then (decide (p.Width ≤ 600)) else false) else false) else false)
noncomputable def r19_Green_g (p : TProduct) : (Int × Int) :=
 (bif (!(r19_sized_g p)) then (0, 0) else (bif (decide (p.Allow < 0)) then (0, 0) else (bif (decide (200 < p.Allow)) then (0, 0) else ((W64 (Int.tdiv (W64 ((W64 (p.Thick * (W64 (1000 + p.Allow)))) + 999)) 1000)), (W64 (Int.tdiv (W64 ((W64 (p.Width * (W64 (1000 + p.Allow)))) + 999)) 1000))))))
noncomputable def r19_checkLengths_s1 (p : TProduct) (i : Int) : Option (Int ⊕ (Int ⊕ Unit)) :=
 (bif (decide (i < ((p.Lengths.length : Nat) : Int))) then (Option.bind (getI p.Lengths i) (fun e => (bif (decide (e < 100)) then some (Sum.inr (Sum.inl 9)) else (Option.bind (getI p.Lengths i) (fun e1 => (bif (decide (20000 < e1)) then some (Sum.inr (Sum.inl 9)) else (bif (decide (0 < i)) then (Option.bind (getI p.Lengths i) (fun e2 => (Option.bind (getI p.Lengths (W64 (i - 1))) (fun e3 => (bif (decide (e2 ≤ e3)) then some (Sum.inr (Sum.inl 11)) else some (Sum.inl (W64 (i + 1)))))))) else some (Sum.inl (W64 (i + 1)))))))))) else some (Sum.inr (Sum.inr ())))
noncomputable def r19_checkLengths_s2 (p : TProduct) (i1 : Int) : Option (Int ⊕ (Int ⊕ Unit)) :=
 (bif (decide (i1 < ((p.Prices.length : Nat) : Int))) then (Option.bind (getI p.Prices i1) (fun e4 => (bif (decide (e4 < 0)) then some (Sum.inr (Sum.inl 9)) else (Option.bind (getI p.Prices i1) (fun e5 => (bif (decide (1000000 < e5)) then some (Sum.inr (Sum.inl 9)) else some (Sum.inl (W64 (i1 + 1))))))))) else some (Sum.inr (Sum.inr ())))
noncomputable def r19_checkLengths_g (p : TProduct) : Option Int :=
 (bif (((p.Lengths.length : Nat) : Int) == 0) then some 3 else (bif (decide (8 < ((p.Lengths.length : Nat) : Int))) then some 4 else (bif (((p.Prices.length : Nat) : Int) != ((p.Lengths.length : Nat) : Int)) then some 19 else (Option.bind ((loopO (fun q => r19_checkLengths_s1 p q) 0) : Option (Int ⊕ Unit)) (Sum.elim (fun q => some q) (fun _ => (Option.bind ((loopO (fun q => r19_checkLengths_s2 p q) 0) : Option (Int ⊕ Unit)) (Sum.elim (fun q => some q) (fun _ => some 0)))))))))
noncomputable def r19_Check_s2 (l : (List TProduct)) (i : Int) (e : TProduct) (k : Int) : Option (Int ⊕ (((Int ⊕ (Int ⊕ Unit)) ⊕ Unit) ⊕ Unit)) :=
 (bif (decide (k < i)) then (Option.bind (getI l k) (fun e1 => (bif (bEq e1.Name e.Name) then some (Sum.inr (Sum.inl (Sum.inl (Sum.inr (Sum.inl 7))))) else some (Sum.inl (W64 (k + 1)))))) else some (Sum.inr (Sum.inr ())))
noncomputable def r19_Check_s1 (l : (List TProduct)) (i : Int) : Option (Int ⊕ (Int ⊕ Unit)) :=
 (bif (decide (i < ((l.length : Nat) : Int))) then (Option.bind ((Option.bind (getI l i) (fun e => (Option.bind (r02_IsName_g e.Name) (fun iv => (bif (!iv) then some (Sum.inl (Sum.inr (Sum.inl 6))) else (Option.bind ((loopO (fun q => r19_Check_s2 l i e q) 0) : Option (((Int ⊕ (Int ⊕ Unit)) ⊕ Unit) ⊕ Unit)) (Sum.elim (fun q => some q) (fun _ => (bif (decide (e.Thick < 5)) then some (Sum.inl (Sum.inr (Sum.inl 9))) else (bif (decide (300 < e.Thick)) then some (Sum.inl (Sum.inr (Sum.inl 9))) else (bif (decide (e.Width < e.Thick)) then some (Sum.inl (Sum.inr (Sum.inl 9))) else (bif (decide (600 < e.Width)) then some (Sum.inl (Sum.inr (Sum.inl 9))) else (bif (decide (e.Allow < 0)) then some (Sum.inl (Sum.inr (Sum.inl 9))) else (bif (decide (200 < e.Allow)) then some (Sum.inl (Sum.inr (Sum.inl 9))) else (bif (decide (e.Wane < 0)) then some (Sum.inl (Sum.inr (Sum.inl 9))) else (bif (decide (1000 < e.Wane)) then some (Sum.inl (Sum.inr (Sum.inl 9))) else (letB (r19_Green_g e) (fun gv => (bif (decide (600 < gv.2)) then some (Sum.inl (Sum.inr (Sum.inl 9))) else (Option.bind (r19_checkLengths_g e) (fun cv => (bif (cv != 0) then some (Sum.inl (Sum.inr (Sum.inl cv))) else some (Sum.inr ()))))))))))))))))))))))) : Option ((Int ⊕ (Int ⊕ Unit)) ⊕ Unit)) (Sum.elim (fun q => some q) (fun _ => some (Sum.inl (W64 (i + 1)))))) else some (Sum.inr (Sum.inr ())))
noncomputable def r19_Check_g (l : (List TProduct)) : Option Int :=
 (bif (decide (16 < ((l.length : Nat) : Int))) then some 4 else (Option.bind ((loopO (fun q => r19_Check_s1 l q) 0) : Option (Int ⊕ Unit)) (Sum.elim (fun q => some q) (fun _ => some 0))))
noncomputable def r02_capital_g (c : Int) : Bool :=
 (bif (decide (65 ≤ c)) then (decide (c ≤ 90)) else false)
theorem r02_capital_w (c : Int) (r : Bool) (h : r02_capital_g c = r) : Holds Tryz.prog 121 [(U8 c)] [] (B r) [] := by
 unfold r02_capital_g at h
 refine holds_fn Tryz.func121 rfl Tryz.ntmps121 rfl rfl rfl (fun lim => ?_)
 refine awp_seq (awp_go hmix (go_run' ttok 1 rfl (go_nil nd (then_norm (awp_seq (awp_go hmix (go_run' ttok 3 rfl ?_)))))))
 refine go_gcase rfl rfl rfl (fun g1 => ?_) (fun g1 => ?_)
 ·rw [g1]
  replace h := of_bif_t h g1
  refine go_run' ttok 4 rfl (go_nil nd (then_norm (awp_ret ?_)))
  have e2 := h
  subst e2
  refine ret_ret ?_
  refine fin0 ttok rfl rfl ?_
  exact (wkP_refl _ rfl)
 ·rw [g1]
  replace h := of_bif_f h g1
  refine go_run' ttok 4 rfl (go_nil nd (then_norm (awp_ret ?_)))
  have e3 := h
  subst e3
  refine ret_ret ?_
  refine fin0 ttok rfl rfl ?_
  exact (wkP_refl _ rfl)
noncomputable def r02_Letter_s1 (s : ByteArray) (m1 : Int) (i : Int) : Option ((Int × Int) ⊕ Int) :=
 (bif (decide (i < ((s.size : Nat) : Int))) then (Option.bind (bytO s i) (fun c => some (Sum.inl ((Int.tmod (W64 (m1 + (W64 ((Int.tmod (W64 (i + 1)) 23) * (W64 c))))) 23), (W64 (i + 1)))))) else some (Sum.inr m1))
noncomputable def r02_Letter_g (s : ByteArray) : Option Int :=
 (Option.bind ((loopO (fun q => r02_Letter_s1 s q.1 q.2) (0, 0)) : Option Int) (fun m => some (WU8 (W64 (65 + m)))))
theorem r02_Letter_w (s : ByteArray) (r : Int) (h : r02_Letter_g s = some r) : Holds Tryz.prog 122 [(S s)] [] (U8 r) [] := by
 unfold r02_Letter_g at h
 refine holds_fn Tryz.func122 rfl Tryz.ntmps122 rfl rfl rfl (fun lim => ?_)
 refine awp_seq (awp_go hmix (go_run' ttok 1 rfl (go_nil nd (then_norm (awp_seq (awp_go hmix (go_run' ttok 1 rfl (go_nil nd (then_norm ?_)))))))))
 obtain ⟨y, hx1, h⟩ := of_obind h
 refine awp_seqJ (X := Int) [] [] (fun w => [(3, (I w))]) (fun w => []) (fun w => w = y) rfl rfl ?_ ?_
 ·skip
  refine awp_seq (awp_go hmix (go_run' ttok 1 rfl (go_nil nd (then_norm (awp_block ?_)))))
  refine awp_loopD (X := (Int × Int)) (Y := Int) [0] [] (fun q => [(3, (I q.1)), (4, (I q.2))]) (fun q => []) (fun q => r02_Letter_s1 s q.1 q.2) (0, 0) [] hx1 ⟨rfl, rfl, rfl, rfl, rfl, ⟨wkP_id _ rfl, wkP_id _ rfl, trivial⟩, trivial⟩ (fun x vR vz hz3 hk4 => ?_)
  obtain ⟨m1, i⟩ := x
  change r02_Letter_s1 s m1 i = _ at hz3
  unfold r02_Letter_s1 at hz3
  refine awp_seq (awp_seq (awp_go hmix (go_run' ttok 4 rfl (go_nil nd (then_norm ?_)))))
  refine awp_cond (b := (decide (i < ((s.size : Nat) : Int)))) rfl (fun c5 => ?_) (fun c5 => ?_)
  ·replace hz3 := of_bif_t hz3 c5
   refine awp_skip (then_norm (awp_seq (awp_block (awp_go hmix (go_run' ttok 6 rfl ?_)))))
   obtain ⟨c, hv6, hz3⟩ := of_obind hz3
   refine go_indexB s i c hv6 ttok rfl rfl rfl rfl rfl rfl rfl ?_
   refine go_run' ttok 5 rfl (go_nil nd (block_norm (then_norm (awp_go hmix (go_run' ttok 3 rfl (go_nil nd ?_))))))
   have e7 := of_some hz3
   subst e7
   refine then_norm ⟨rfl, ((Int.tmod (W64 (m1 + (W64 ((Int.tmod (W64 (i + 1)) 23) * (W64 c))))) 23), (W64 (i + 1))), [], ⟨rfl, rfl, rfl, rfl, rfl, ⟨wkP_id _ rfl, wkP_id _ rfl, trivial⟩, trivial⟩, hk4⟩
  ·replace hz3 := of_bif_f hz3 c5
   refine awp_exit (then_exit ?_)
   obtain ⟨t, hn8, hq⟩ := of_mapr' hz3
   subst hq
   have hq : t = _ := hk4
   subst hq
   refine then_exit (block_here ?_)
   have e9 := of_some hn8
   refine then_norm ⟨rfl, m1, [], ⟨rfl, rfl, rfl, rfl, rfl, ⟨wkP_id _ rfl, trivial⟩, trivial⟩, e9⟩
 ·intro m hw2
  subst hw2
  refine awp_seq (awp_go hmix (go_run' ttok 4 rfl (go_nil nd (then_norm (awp_ret ?_)))))
  have e10 := of_some h
  subst e10
  refine ret_ret ?_
  refine fin0 ttok rfl rfl ?_
  exact (wkP_refl _ rfl)
noncomputable def r02_Split_s1 (s : ByteArray) (n1 : Int) (i : Int) : Option ((Int × Int) ⊕ ((Int × Int × Int) ⊕ Int)) :=
 (bif (decide (i < 7)) then (Option.bind (bytO s i) (fun c1 => (bif (!(r02_digit_g c1)) then some (Sum.inr (Sum.inl (0, 0, 5))) else (Option.bind (bytO s i) (fun c2 => some (Sum.inl ((W64 ((W64 (10 * n1)) + (W64 (WU8 (c2 - 48))))), (W64 (i + 1))))))))) else some (Sum.inr (Sum.inr n1)))
noncomputable def r02_Split_g (s : ByteArray) : Option (Int × Int × Int) :=
 (bif (((s.size : Nat) : Int) != 8) then some (0, 0, 3) else (Option.bind (bytO s 0) (fun c => (bif (!(r02_capital_g c)) then some (0, 0, 10) else (Option.bind ((loopO (fun q => r02_Split_s1 s q.1 q.2) (0, 1)) : Option ((Int × Int × Int) ⊕ Int)) (Sum.elim (fun q => some q) (fun n => (Option.bind (bytO s 7) (fun c3 => (Option.bind (ssubO s 0 7) (fun t3 => (Option.bind (r02_Letter_g t3) (fun lv => (bif (c3 != lv) then some (0, 0, 16) else (Option.bind (bytO s 0) (fun c4 => some (c4, n, 0)))))))))))))))))
theorem r02_Split_w (s : ByteArray) (r : (Int × Int × Int)) (h : r02_Split_g s = some r) : Holds Tryz.prog 71 [(S s)] [] (.tup [(U8 r.1), (I r.2.1), (I r.2.2)]) [] := by
 unfold r02_Split_g at h
 refine holds_fn Tryz.func71 rfl Tryz.ntmps71 rfl rfl rfl (fun lim => ?_)
 refine awp_seq (awp_go hmix (go_run' ttok 3 rfl (go_nil nd (then_norm (awp_seq (awp_seq (awp_go hmix (go_run' ttok 3 rfl (go_nil nd (then_norm ?_))))))))))
 refine awp_cond (b := (((s.size : Nat) : Int) != 8)) rfl (fun c1 => ?_) (fun c1 => ?_)
 ·replace h := of_bif_t h c1
  refine awp_seq (awp_go hmix (go_run' ttok 3 rfl (go_nil nd (then_norm (awp_ret (then_ret ?_))))))
  have e2 := of_some h
  subst e2
  refine ret_ret ?_
  refine fin0 ttok rfl rfl ?_
  exact wkP_refl _ rfl
 ·replace h := of_bif_f h c1
  refine awp_skip (then_norm (awp_seq (awp_seq (awp_go hmix (go_run' ttok 1 rfl ?_)))))
  obtain ⟨c, hv3, h⟩ := of_obind h
  refine go_indexB s 0 c hv3 ttok rfl rfl rfl rfl rfl rfl rfl ?_
  refine go_call fn121 (r02_capital_w c _ rfl) rfl rfl rfl rfl rfl rfl rfl ?_
  refine go_run' ttok 1 rfl (go_nil nd (then_norm ?_))
  refine awp_cond (b := (!(r02_capital_g c))) rfl (fun c4 => ?_) (fun c4 => ?_)
  ·replace h := of_bif_t h c4
   refine awp_seq (awp_go hmix (go_run' ttok 3 rfl (go_nil nd (then_norm (awp_ret (then_ret ?_))))))
   have e5 := of_some h
   subst e5
   refine ret_ret ?_
   refine fin0 ttok rfl rfl ?_
   exact wkP_refl _ rfl
  ·replace h := of_bif_f h c4
   refine awp_skip (then_norm (awp_seq (awp_go hmix (go_run' ttok 1 rfl (go_nil nd (then_norm ?_))))))
   obtain ⟨y, hx6, h⟩ := of_obind h
   refine awp_seqJ (X := Int) [0] [] (fun w => [(5, (I w))]) (fun w => []) (fun w => Sum.inr w = y) rfl rfl ?_ ?_
   ·skip
    refine awp_seq (awp_go hmix (go_run' ttok 1 rfl (go_nil nd (then_norm (awp_block ?_)))))
    refine awp_loopD (X := (Int × Int)) (Y := ((Int × Int × Int) ⊕ Int)) [0] [] (fun q => [(5, (I q.1)), (6, (I q.2))]) (fun q => []) (fun q => r02_Split_s1 s q.1 q.2) (0, 1) [] hx6 ⟨rfl, rfl, rfl, rfl, rfl, ⟨wkP_id _ rfl, wkP_id _ rfl, trivial⟩, trivial⟩ (fun x vR vz hz8 hk9 => ?_)
    obtain ⟨n1, i⟩ := x
    change r02_Split_s1 s n1 i = _ at hz8
    unfold r02_Split_s1 at hz8
    refine awp_seq (awp_seq (awp_go hmix (go_run' ttok 2 rfl (go_nil nd (then_norm ?_)))))
    refine awp_cond (b := (decide (i < 7))) rfl (fun c10 => ?_) (fun c10 => ?_)
    ·replace hz8 := of_bif_t hz8 c10
     refine awp_skip (then_norm (awp_seq (awp_block (awp_seq (awp_seq (awp_go hmix (go_run' ttok 2 rfl ?_)))))))
     obtain ⟨c1, hv11, hz8⟩ := of_obind hz8
     refine go_indexB s i c1 hv11 ttok rfl rfl rfl rfl rfl rfl rfl ?_
     refine go_call fn72 (r02_digit_w c1 _ rfl) rfl rfl rfl rfl rfl rfl rfl ?_
     refine go_run' ttok 1 rfl (go_nil nd (then_norm ?_))
     refine awp_cond (b := (!(r02_digit_g c1))) rfl (fun c12 => ?_) (fun c12 => ?_)
     ·replace hz8 := of_bif_t hz8 c12
      refine awp_seq (awp_go hmix (go_run' ttok 3 rfl (go_nil nd (then_norm (awp_ret (then_ret (block_ret (then_ret ?_))))))))
      obtain ⟨t, hn13, hq⟩ := of_mapr' hz8
      subst hq
      have hq : t = _ := hk9
      subst hq
      refine then_ret (block_ret ?_)
      obtain ⟨t1, hn14, hq⟩ := of_mapl' hn13
      subst hq
      have hq := of_inl h
      replace hq := of_some hq
      subst hq
      refine then_ret ?_
      have e15 := of_some hn14
      subst e15
      refine ret_ret ?_
      refine fin0 ttok rfl rfl ?_
      exact wkP_refl _ rfl
     ·replace hz8 := of_bif_f hz8 c12
      refine awp_skip (then_norm (awp_go hmix (go_run' ttok 4 rfl ?_)))
      obtain ⟨c2, hv16, hz8⟩ := of_obind hz8
      refine go_indexB s i c2 hv16 ttok rfl rfl rfl rfl rfl rfl rfl ?_
      refine go_run' ttok 4 rfl (go_nil nd (block_norm (then_norm (awp_go hmix (go_run' ttok 3 rfl (go_nil nd ?_))))))
      have e17 := of_some hz8
      subst e17
      refine then_norm ⟨rfl, ((W64 ((W64 (10 * n1)) + (W64 (WU8 (c2 - 48))))), (W64 (i + 1))), [], ⟨rfl, rfl, rfl, rfl, rfl, ⟨wkP_id _ rfl, wkP_id _ rfl, trivial⟩, trivial⟩, hk9⟩
    ·replace hz8 := of_bif_f hz8 c10
     refine awp_exit (then_exit ?_)
     obtain ⟨t2, hn18, hq⟩ := of_mapr' hz8
     subst hq
     have hq : t2 = _ := hk9
     subst hq
     refine then_exit (block_here ?_)
     have e19 := of_some hn18
     refine then_norm ⟨rfl, n1, [], ⟨rfl, rfl, rfl, rfl, rfl, ⟨wkP_id _ rfl, trivial⟩, trivial⟩, e19⟩
   ·intro n hw7
    subst hw7
    replace h := of_inr h
    refine awp_seq (awp_seq (awp_go hmix (go_run' ttok 1 rfl ?_)))
    obtain ⟨c3, hv20, h⟩ := of_obind h
    refine go_indexB s 7 c3 hv20 ttok rfl rfl rfl rfl rfl rfl rfl ?_
    refine go_run' ttok 1 rfl ?_
    obtain ⟨t3, hv21, h⟩ := of_obind h
    refine go_sliceS s t3 0 7 hv21 ttok rfl rfl rfl rfl rfl rfl ⟨_, rfl⟩ rfl ?_
    obtain ⟨lv, hv22, h⟩ := of_obind h
    refine go_call fn122 (r02_Letter_w t3 lv hv22) rfl rfl rfl rfl rfl rfl rfl ?_
    refine go_run' ttok 1 rfl ?_
    refine go_nil (fun _ => by kernel_rfl) ?_
    refine then_norm ?_
    refine awp_cond (b := (c3 != lv)) rfl (fun c23 => ?_) (fun c23 => ?_)
    ·replace h := of_bif_t h c23
     refine awp_seq (awp_go hmix (go_run' ttok 3 rfl (go_nil nd (then_norm (awp_ret (then_ret ?_))))))
     have e24 := of_some h
     subst e24
     refine ret_ret ?_
     refine fin0 ttok rfl rfl ?_
     exact wkP_refl _ rfl
    ·replace h := of_bif_f h c23
     refine awp_skip (then_norm (awp_seq (awp_go hmix (go_run' ttok 1 rfl ?_))))
     obtain ⟨c4, hv25, h⟩ := of_obind h
     refine go_indexB s 0 c4 hv25 ttok rfl rfl rfl rfl rfl rfl rfl ?_
     refine go_run' ttok 4 rfl (go_nil nd (then_norm (awp_ret ?_)))
     have e26 := of_some h
     subst e26
     refine ret_ret ?_
     refine fin0 ttok rfl rfl ?_
     exact wkP_refl _ rfl
noncomputable def r02_Is_g (s : ByteArray) (kind : Int) : Option Bool :=
 (Option.bind (r02_Split_g s) (fun sv => (bif (sv.2.2 == 0) then some (sv.1 == kind) else some false)))
theorem r02_Is_w (s : ByteArray) (kind : Int) (r : Bool) (h : r02_Is_g s kind = some r) : Holds Tryz.prog 20 [(S s), (U8 kind)] [] (B r) [] := by
 unfold r02_Is_g at h
 refine holds_fn Tryz.func20 rfl Tryz.ntmps20 rfl rfl rfl (fun lim => ?_)
 refine awp_seq (awp_go hmix (go_run' ttok 1 rfl (go_nil nd (then_norm (awp_seq (awp_go hmix (go_run' ttok 1 rfl ?_)))))))
 obtain ⟨sv, hv1, h⟩ := of_obind h
 refine go_call fn71 (r02_Split_w s sv hv1) rfl rfl rfl rfl rfl rfl rfl ?_
 refine go_run' ttok 7 rfl (go_nil nd (then_norm (awp_seq (awp_go hmix (go_run' ttok 3 rfl ?_)))))
 refine go_gcase rfl rfl rfl (fun g2 => ?_) (fun g2 => ?_)
 ·rw [g2]
  replace h := of_bif_t h g2
  refine go_run' ttok 5 rfl (go_nil nd (then_norm (awp_ret ?_)))
  have e3 := of_some h
  subst e3
  refine ret_ret ?_
  refine fin0 ttok rfl rfl ?_
  exact (wkP_refl _ rfl)
 ·rw [g2]
  replace h := of_bif_f h g2
  refine go_run' ttok 5 rfl (go_nil nd (then_norm (awp_ret ?_)))
  have e4 := of_some h
  subst e4
  refine ret_ret ?_
  refine fin0 ttok rfl rfl ?_
  exact (wkP_refl _ rfl)
noncomputable def r13_Empty_g (b : Bx) : Bool :=
 (bif (decide (b.x.b ≤ b.x.a)) then true else (bif (decide (b.y.b ≤ b.y.a)) then true else (decide (b.z.b ≤ b.z.a))))
noncomputable def r30_within_g (s : Sp) (low : Int) (high : Int) : Bool :=
 (bif (decide (low ≤ s.a)) then (bif (decide (s.a ≤ high)) then (bif (decide (low ≤ s.b)) then (decide (s.b ≤ high)) else false) else false) else false)
noncomputable def r30_Placed_g (b : Bx) : Bool :=
 (bif (!(r13_Empty_g b)) then (bif (r30_within_g b.x (-600) 600) then (bif (r30_within_g b.y (-600) 600) then (r30_within_g b.z 0 20000) else false) else false) else false)
noncomputable def r30_length_g (s : Sp) : Int :=
 (W64 (s.b - s.a))
noncomputable def r13_in_g (s : Sp) (low : Int) (high : Int) : Bool :=
 (bif (decide (low ≤ s.a)) then (decide (s.b ≤ high)) else false)
noncomputable def r13_Ranged_g (b : Bx) : Bool :=
 (bif (r13_in_g b.x (-600) 600) then (bif (r13_in_g b.y (-600) 600) then (r13_in_g b.z 0 20000) else false) else false)
noncomputable def r13_Check_s1 (l : (List Df)) (i : Int) : Option (Int ⊕ (Int ⊕ Unit)) :=
 (bif (decide (i < ((l.length : Nat) : Int))) then (Option.bind ((Option.bind (getI l i) (fun e => (bif (decide (e.k < 1)) then some true else (Option.bind (getI l i) (fun e1 => some (decide (6 < e1.k))))))) : Option Bool) (fun vv => (bif vv then some (Sum.inr (Sum.inl 10)) else (Option.bind (getI l i) (fun e2 => (bif (r13_Empty_g e2.b) then some (Sum.inr (Sum.inl 19)) else (Option.bind (getI l i) (fun e3 => (bif (!(r13_Ranged_g e3.b)) then some (Sum.inr (Sum.inl 9)) else some (Sum.inl (W64 (i + 1)))))))))))) else some (Sum.inr (Sum.inr ())))
noncomputable def r13_Check_g (l : (List Df)) : Option Int :=
 (bif (decide (64 < ((l.length : Nat) : Int))) then some 4 else (Option.bind ((loopO (fun q => r13_Check_s1 l q) 0) : Option (Int ⊕ Unit)) (Sum.elim (fun q => some q) (fun _ => some 0))))
noncomputable def r30_Volume_g (b : TBoard) : Int :=
 (bif (!(r30_Placed_g b.Box)) then 0 else (W64 ((W64 ((r30_length_g b.Box.x) * (r30_length_g b.Box.y))) * (r30_length_g b.Box.z))))
end Go.Proofs.YtpoehckffpbfiaaGreat
