/- A1c: what functions of the program compute (written by mod.py). -/
import Derived.Test.YtcimnopodmnmmaaA1b
import Derived.KernelRfl
namespace Go.Proofs.Ytcimnopodmnmmaa
open Go Go.Ab
set_option linter.unusedSimpArgs false
set_option linter.unusedVariables false
set_option linter.unusedSectionVars false
set_option maxRecDepth 20000
set_option maxHeartbeats 1000000

noncomputable def resaw_Boards_s1 (b : TBoard) (products : (List Int)) (alongX : Bool) (sv : ((List Sp) × (List Sp) × Sp × Int)) (low : Int) (boards1 : (List TBoard)) (vv : Int) : Option (((List TBoard) × Int) ⊕ (List TBoard)) :=
 (bif (decide (vv < ((sv.1.length : Nat) : Int))) then (Option.bind (getI sv.1 vv) (fun e1 => (Option.bind (getI products vv) (fun e2 => (letB (resaw_Boards_1_g e1 b alongX low) (fun bv => (letB (resaw_with_g (⟨(⟨0, (W64 (b.Box.x.b - b.Box.x.a))⟩ : Sp), (⟨0, (W64 (b.Box.y.b - b.Box.y.a))⟩ : Sp), (⟨0, (W64 (b.Box.z.b - b.Box.z.a))⟩ : Sp)⟩ : Bx) alongX e1) (fun wv => (Option.bind (defect_Clip_g b.Defects wv) (fun cv2 => (Option.bind (appO 184 boards1 ([(⟨(⟨#[]⟩ : ByteArray), b.Log, b.Species, e2, bv, 0, cv2, b.Wane, b.Cell, b.Dried, 0⟩ : TBoard)])) (fun l => some (Sum.inl (l, (W64 (vv + 1)))))))))))))))) else some (Sum.inr boards1))
noncomputable def resaw_Boards_s2 (b : TBoard) (alongX : Bool) (sv : ((List Sp) × (List Sp) × Sp × Int)) (low : Int) (dust1 : (List Bx)) (vv1 : Int) : Option (((List Bx) × Int) ⊕ (List Bx)) :=
 (bif (decide (vv1 < ((sv.2.1.length : Nat) : Int))) then (Option.bind (getI sv.2.1 vv1) (fun e3 => (letB (resaw_Boards_1_g e3 b alongX low) (fun bv1 => (Option.bind (appO 48 dust1 ([bv1])) (fun l1 => some (Sum.inl (l1, (W64 (vv1 + 1)))))))))) else some (Sum.inr dust1))
/-- sawmill/resaw.Boards -/
noncomputable def resaw_Boards_g (b : TBoard) (c : (List TProduct)) (products : (List Int)) (kerf : Int) : Option ((List TBoard) × (List Bx) × (List Bx) × Int) :=
 (Option.bind (product_Check_g c) (fun cv => (bif (cv != 0) then some ([], [], [], cv) else (bif (decide (b.Product < 0)) then some ([], [], [], 8) else (bif (decide (((c.length : Nat) : Int) ≤ b.Product)) then some ([], [], [], 8) else (Option.bind (resaw_checkBoard_g b) (fun cv1 => (bif (cv1 != 0) then some ([], [], [], cv1) else (Option.bind (getI c b.Product) (fun e => (letB (product_Green_g e) (fun gv => (letB ((bif ((W64 (b.Box.x.b - b.Box.x.a)) == gv.1) then ((W64 (b.Box.y.b - b.Box.y.a)) == gv.2) else false) : Bool) (fun alongX => (Option.bind ((bif (!alongX) then (bif ((W64 (b.Box.y.b - b.Box.y.a)) != gv.1) then some (Sum.inl ([], [], [], 20)) else (bif ((W64 (b.Box.x.b - b.Box.x.a)) != gv.2) then some (Sum.inl ([], [], [], 20)) else some (Sum.inr ()))) else some (Sum.inr ())) : Option (((List TBoard) × (List Bx) × (List Bx) × Int) ⊕ Unit)) (Sum.elim (fun q => some q) (fun _ => (Option.bind (resaw_thicknesses_g c products gv.2 (W64 (b.Box.z.b - b.Box.z.a))) (fun tv => (bif (tv.2 != 0) then some ([], [], [], tv.2) else (Option.bind (resaw_Spans_g gv.1 kerf tv.1) (fun sv => (bif (sv.2.2.2 != 0) then some ([], [], [], sv.2.2.2) else (letB ((bif alongX then b.Box.x.a else b.Box.y.a) : Int) (fun low => (Option.bind ((loopO (fun q => resaw_Boards_s1 b products alongX sv low q.1 q.2) ([], 0)) : Option (List TBoard)) (fun boards => (Option.bind ((loopO (fun q => resaw_Boards_s2 b alongX sv low q.1 q.2) ([], 0)) : Option (List Bx)) (fun dust => (bif (decide (0 < (span_Len_g sv.2.2.1))) then (letB (resaw_Boards_1_g sv.2.2.1 b alongX low) (fun bv2 => (Option.bind (appO 48 ([] : List Bx) ([bv2])) (fun l2 => some (boards, dust, l2, 0))))) else some (boards, dust, [], 0)))))))))))))))))))))))))))))))
theorem resaw_Boards_w (b : TBoard) (c : (List TProduct)) (products : (List Int)) (kerf : Int) (r : ((List TBoard) × (List Bx) × (List Bx) × Int)) (h : resaw_Boards_g b c products kerf = some r) : Holds Try.prog 38 [(encTBoard b), ((encL encTProduct) c), ((encL I) products), (I kerf)] [] (.tup [((encL encTBoard) r.1), ((encL encBx) r.2.1), ((encL encBx) r.2.2.1), (I r.2.2.2)]) [] := by
 unfold resaw_Boards_g at h
 refine holds_fn Try.func38 rfl Try.ntmps38 rfl rfl rfl (fun lim => ?_)
 refine awp_seq (awp_go hmix (go_run' ttok 5 rfl (go_nil nd (then_norm (awp_seq (awp_seq (awp_go hmix (go_run' ttok 1 rfl ?_))))))))
 obtain ⟨cv, hv1, h⟩ := of_obind h
 refine go_call fn45 (product_Check_w c cv hv1) rfl rfl rfl rfl rfl rfl rfl ?_
 refine go_run' ttok 1 rfl (go_nil nd (then_norm (awp_seq (awp_go hmix (go_run' ttok 2 rfl (go_nil nd (then_norm ?_)))))))
 refine awp_cond (b := (cv != 0)) rfl (fun c2 => ?_) (fun c2 => ?_)
 ·replace h := of_bif_t h c2
  refine awp_seq (awp_go hmix (go_run' ttok 5 rfl (go_nil nd (then_norm (awp_ret (then_ret ?_))))))
  have e3 := of_some h
  subst e3
  refine ret_ret ?_
  refine fin0 ttok rfl rfl ?_
  exact ⟨wkP_nilm, wkP_nilm, wkP_nilm, (wkP_refl _ rfl), trivial⟩
 ·replace h := of_bif_f h c2
  refine awp_skip (then_norm (awp_seq (awp_seq (awp_go hmix (go_run' ttok 4 rfl ?_)))))
  refine go_gcase rfl rfl rfl (fun g4 => ?_) (fun g4 => ?_)
  ·rw [g4]
   replace h := of_bif_t h g4
   refine go_run' ttok 6 rfl (go_nil nd (then_norm ?_))
   refine awp_cond rfl (fun tt0 => ?_) (fun h => by cases h)
   clear tt0
   refine awp_seq (awp_go hmix (go_run' ttok 4 rfl (go_nil nd (then_norm (awp_ret (then_ret ?_))))))
   have e5 := of_some h
   subst e5
   refine ret_ret ?_
   refine fin0 ttok rfl rfl ?_
   exact ⟨wkP_nilm, wkP_nilm, wkP_nilm, (wkP_refl _ rfl), trivial⟩
  ·rw [g4]
   replace h := of_bif_f h g4
   refine go_run' ttok 3 rfl ?_
   refine go_lenT encTProduct c ttok rfl rfl rfl rfl rfl rfl ?_
   refine go_run' ttok 2 rfl (go_nil nd (then_norm ?_))
   refine awp_cond (b := (decide (((c.length : Nat) : Int) ≤ b.Product))) rfl (fun c6 => ?_) (fun c6 => ?_)
   ·replace h := of_bif_t h c6
    refine awp_seq (awp_go hmix (go_run' ttok 4 rfl (go_nil nd (then_norm (awp_ret (then_ret ?_))))))
    have e7 := of_some h
    subst e7
    refine ret_ret ?_
    refine fin0 ttok rfl rfl ?_
    exact ⟨wkP_nilm, wkP_nilm, wkP_nilm, (wkP_refl _ rfl), trivial⟩
   ·replace h := of_bif_f h c6
    refine awp_skip (then_norm (awp_seq (awp_seq (awp_go hmix (go_run' ttok 1 rfl ?_)))))
    obtain ⟨cv1, hv8, h⟩ := of_obind h
    refine go_call fn46 (resaw_checkBoard_w b cv1 hv8) rfl rfl rfl rfl rfl rfl rfl ?_
    refine go_run' ttok 1 rfl (go_nil nd (then_norm (awp_seq (awp_go hmix (go_run' ttok 2 rfl (go_nil nd (then_norm ?_)))))))
    refine awp_cond (b := (cv1 != 0)) rfl (fun c9 => ?_) (fun c9 => ?_)
    ·replace h := of_bif_t h c9
     refine awp_seq (awp_go hmix (go_run' ttok 5 rfl (go_nil nd (then_norm (awp_ret (then_ret ?_))))))
     have e10 := of_some h
     subst e10
     refine ret_ret ?_
     refine fin0 ttok rfl rfl ?_
     exact ⟨wkP_nilm, wkP_nilm, wkP_nilm, (wkP_refl _ rfl), trivial⟩
    ·replace h := of_bif_f h c9
     refine awp_skip (then_norm (awp_seq (awp_go hmix (go_run' ttok 3 rfl ?_))))
     obtain ⟨e, hv11, h⟩ := of_obind h
     refine go_indexT encTProduct c b.Product e hv11 ttok rfl rfl rfl rfl rfl rfl rfl rfl rfl ?_
     refine go_run' ttok 1 rfl ?_
     obtain ⟨gv, hv12, h⟩ := of_let h
     refine go_call fn47 (product_Green_w e gv hv12) rfl rfl rfl rfl rfl rfl rfl ?_
     refine go_run' ttok 5 rfl (go_nil nd (then_norm (awp_seq (awp_go hmix (go_run' ttok 30 rfl ?_)))))
     refine go_nil (fun _ => by kernel_rfl) ?_
     refine then_norm ?_
     obtain ⟨y, hx13, h⟩ := of_let h
     refine awp_seqJ (X := Bool) [1, 2, 3, 4, 8, 9, 10, 14, 15, 16, 17, 18] [4] (fun w => [(19, (.ref 19 0 0))]) (fun w => [(19, some ⟨4, 1, [(B w)]⟩)]) (fun w => w = y) rfl rfl ?_ ?_
     ·skip
      refine awp_go hmix (go_run' ttok 4 rfl ?_)
      refine go_gcase rfl rfl rfl (fun g15 => ?_) (fun g15 => ?_)
      ·rw [g15]
       replace hx13 := of_bif_t hx13 g15
       refine go_run' ttok 6 rfl (go_nil nd ?_)
       have e16 := hx13
       refine then_norm ⟨rfl, ((W64 (b.Box.y.b - b.Box.y.a)) == gv.2), [(19, some 19), (4, some 4)], ⟨rfl, rfl, rfl, rfl, rfl, ⟨wkP_id _ rfl, trivial⟩, ⟨⟨_, rfl, rfl, rfl, .inl ⟨rfl, nr_one rfl⟩⟩, trivial⟩⟩, e16⟩
      ·rw [g15]
       replace hx13 := of_bif_f hx13 g15
       refine go_run' ttok 6 rfl (go_nil nd ?_)
       have e17 := hx13
       refine then_norm ⟨rfl, false, [(19, some 19), (4, some 4)], ⟨rfl, rfl, rfl, rfl, rfl, ⟨wkP_id _ rfl, trivial⟩, ⟨⟨_, rfl, rfl, rfl, .inl ⟨rfl, nr_one rfl⟩⟩, trivial⟩⟩, e17⟩
     ·intro alongX hw14
      subst hw14
      obtain ⟨y1, hx18, h⟩ := of_obind h
      refine awp_seqJ (X := Unit) [1, 2, 3, 4, 14, 15, 16, 17, 18, 19] [4, 19] (fun _ => [(8, .nilS), (9, .nilS), (10, .nilS)]) (fun _ => []) (fun w1 => Sum.inr w1 = y1) rfl rfl ?_ ?_
      ·skip
       refine awp_seq (awp_go hmix (go_run' ttok 3 rfl ?_))
       refine go_gcase rfl rfl rfl (fun g20 => ?_) (fun g20 => ?_)
       ·rw [g20]
        replace hx18 := of_bif_t hx18 g20
        refine go_run' ttok 4 rfl ?_
        refine go_gcase rfl rfl rfl (fun g21 => ?_) (fun g21 => ?_)
        ·rw [g21]
         replace hx18 := of_bif_t hx18 g21
         refine go_run' ttok 5 rfl (go_nil nd (then_norm ?_))
         refine awp_cond rfl (fun tt0 => ?_) (fun h => by cases h)
         clear tt0
         refine awp_seq (awp_go hmix (go_run' ttok 4 rfl (go_nil nd (then_norm (awp_ret ?_)))))
         obtain ⟨t, hn22, hq⟩ := of_mapl' hx18
         subst hq
         have hq := of_inl h
         replace hq := of_some hq
         subst hq
         refine then_ret ?_
         have e23 := of_some hn22
         subst e23
         refine ret_ret ?_
         refine fin0 ttok rfl rfl ?_
         exact ⟨wkP_nilm, wkP_nilm, wkP_nilm, (wkP_refl _ rfl), trivial⟩
        ·rw [g21]
         replace hx18 := of_bif_f hx18 g21
         refine go_run' ttok 5 rfl (go_nil nd (then_norm ?_))
         refine awp_cond (b := ((W64 (b.Box.x.b - b.Box.x.a)) != gv.2)) rfl (fun c24 => ?_) (fun c24 => ?_)
         ·replace hx18 := of_bif_t hx18 c24
          refine awp_seq (awp_go hmix (go_run' ttok 4 rfl (go_nil nd (then_norm (awp_ret ?_)))))
          obtain ⟨t1, hn25, hq⟩ := of_mapl' hx18
          subst hq
          have hq := of_inl h
          replace hq := of_some hq
          subst hq
          refine then_ret ?_
          have e26 := of_some hn25
          subst e26
          refine ret_ret ?_
          refine fin0 ttok rfl rfl ?_
          exact ⟨wkP_nilm, wkP_nilm, wkP_nilm, (wkP_refl _ rfl), trivial⟩
         ·replace hx18 := of_bif_f hx18 c24
          refine awp_skip ?_
          have e27 := of_some hx18
          refine then_norm ⟨rfl, (), [(4, some 4), (19, some 19)], ⟨rfl, rfl, rfl, rfl, rfl, ⟨wkP_id _ rfl, wkP_id _ rfl, wkP_id _ rfl, trivial⟩, trivial⟩, e27⟩
       ·rw [g20]
        replace hx18 := of_bif_f hx18 g20
        refine go_run' ttok 9 rfl (go_nil nd (then_norm ?_))
        refine awp_cond rfl (fun h => by cases h) (fun tt0 => ?_)
        clear tt0
        refine awp_skip ?_
        have e28 := of_some hx18
        refine then_norm ⟨rfl, (), [(4, some 4), (19, some 19)], ⟨rfl, rfl, rfl, rfl, rfl, ⟨wkP_id _ rfl, wkP_id _ rfl, wkP_id _ rfl, trivial⟩, trivial⟩, e28⟩
      ·intro w1 hw19
       subst hw19
       replace h := of_inr h
       refine awp_seq (awp_go hmix (go_run' ttok 4 rfl ?_))
       obtain ⟨tv, hv29, h⟩ := of_obind h
       refine go_call fn48 (resaw_thicknesses_w c products gv.2 (W64 (b.Box.z.b - b.Box.z.a)) tv hv29) rfl rfl rfl rfl rfl rfl rfl ?_
       refine go_run' ttok 5 rfl (go_nil nd (then_norm (awp_seq (awp_seq (awp_go hmix (go_run' ttok 2 rfl (go_nil nd (then_norm ?_))))))))
       refine awp_cond (b := (tv.2 != 0)) rfl (fun c30 => ?_) (fun c30 => ?_)
       ·replace h := of_bif_t h c30
        refine awp_seq (awp_go hmix (go_run' ttok 5 rfl (go_nil nd (then_norm (awp_ret (then_ret ?_))))))
        have e31 := of_some h
        subst e31
        refine ret_ret ?_
        refine fin0 ttok rfl rfl ?_
        exact ⟨wkP_nilm, wkP_nilm, wkP_nilm, (wkP_refl _ rfl), trivial⟩
       ·replace h := of_bif_f h c30
        refine awp_skip (then_norm (awp_seq (awp_go hmix (go_run' ttok 3 rfl ?_))))
        obtain ⟨sv, hv32, h⟩ := of_obind h
        refine go_call fn13 (resaw_Spans_w gv.1 kerf tv.1 sv hv32) rfl rfl rfl rfl rfl rfl rfl ?_
        refine go_run' ttok 10 rfl (go_nil nd (then_norm (awp_seq (awp_seq (awp_go hmix (go_run' ttok 2 rfl (go_nil nd (then_norm ?_))))))))
        refine awp_cond (b := (sv.2.2.2 != 0)) rfl (fun c33 => ?_) (fun c33 => ?_)
        ·replace h := of_bif_t h c33
         refine awp_seq (awp_go hmix (go_run' ttok 5 rfl (go_nil nd (then_norm (awp_ret (then_ret ?_))))))
         have e34 := of_some h
         subst e34
         refine ret_ret ?_
         refine fin0 ttok rfl rfl ?_
         exact ⟨wkP_nilm, wkP_nilm, wkP_nilm, (wkP_refl _ rfl), trivial⟩
        ·replace h := of_bif_f h c33
         refine awp_skip (then_norm (awp_seq (awp_go hmix (go_run' ttok 6 rfl (go_nil nd (then_norm ?_))))))
         obtain ⟨y2, hx35, h⟩ := of_let h
         refine awp_seqJ (X := Int) [2, 4, 8, 9, 10, 16, 17, 18, 19, 21, 22, 23, 24] [4, 19, 23] (fun w2 => []) (fun w2 => [(24, some ⟨3, 1, [(I w2)]⟩)]) (fun w2 => w2 = y2) rfl rfl ?_ ?_
         ·skip
          refine awp_seq (awp_go hmix (go_run' ttok 1 rfl (go_nil nd (then_norm ?_))))
          refine awp_cond (b := alongX) rfl (fun c37 => ?_) (fun c37 => ?_)
          ·replace hx35 := of_bif_t hx35 c37
           refine awp_go hmix (go_run' ttok 5 rfl (go_nil nd ?_))
           have e38 := hx35
           refine then_norm ⟨rfl, b.Box.x.a, [(24, some 24), (4, some 4), (19, some 19), (23, some 23)], ⟨rfl, rfl, rfl, rfl, rfl, trivial, ⟨⟨_, rfl, rfl, rfl, .inl ⟨rfl, nr_one rfl⟩⟩, trivial⟩⟩, e38⟩
          ·replace hx35 := of_bif_f hx35 c37
           refine awp_skip ?_
           have e39 := hx35
           refine then_norm ⟨rfl, b.Box.y.a, [(24, some 24), (4, some 4), (19, some 19), (23, some 23)], ⟨rfl, rfl, rfl, rfl, rfl, trivial, ⟨⟨_, rfl, rfl, rfl, .inl ⟨rfl, nr_one rfl⟩⟩, trivial⟩⟩, e39⟩
         ·intro low hw36
          subst hw36
          refine awp_seq (awp_go hmix (go_run' ttok 2 rfl (go_nil nd (then_norm (awp_seq (awp_go hmix (go_run' ttok 9 rfl (go_nil nd (then_norm ?_)))))))))
          obtain ⟨y3, hx40, h⟩ := of_obind h
          refine awp_seqJ (X := (List TBoard)) [9, 10, 22, 23, 25] [23, 4, 19, 24] (fun w3 => [(8, (.arr 8 0 w3.length))]) (fun w3 => [(8, some ⟨44, 18, w3.map encTBoard⟩)]) (fun w3 => w3 = y3) rfl rfl ?_ ?_
          ·skip
           refine awp_seq (awp_go hmix (go_run' ttok 1 rfl ?_))
           refine go_lenT encSp sv.1 ttok rfl rfl rfl rfl rfl rfl ?_
           refine go_run' ttok 1 rfl (go_nil nd (then_norm (awp_block ?_)))
           refine awp_loopD (X := ((List TBoard) × Int)) (Y := (List TBoard)) [2, 4, 9, 10, 19, 22, 23, 25, 26, 147, 148] [4, 19, 23, 24, 26] (fun q => [(8, (.arr 8 0 q.1.length)), (149, (I q.2))]) (fun q => [(8, some ⟨44, 18, q.1.map encTBoard⟩)]) (fun q => resaw_Boards_s1 b products alongX sv low q.1 q.2) ([], 0) [(8, none), (4, some 4), (19, some 19), (23, some 23), (24, some 24), (26, some 26)] hx40 ⟨rfl, rfl, rfl, rfl, rfl, ⟨⟨rfl, rfl, (by first | rfl | (simp [setI]; done) | omega | (dsimp only; omega) | (simp [setI]; omega))⟩, wkP_id _ rfl, trivial⟩, ⟨rfl, trivial⟩⟩ (fun x vR vz hz42 hk43 => ?_)
           obtain ⟨boards1, vv⟩ := x
           change resaw_Boards_s1 b products alongX sv low boards1 vv = _ at hz42
           unfold resaw_Boards_s1 at hz42
           refine awp_seq (awp_go hmix (go_run' ttok 1 rfl (go_nil nd (then_norm (awp_seq ?_)))))
           refine awp_cond (b := (decide (vv < ((sv.1.length : Nat) : Int)))) rfl (fun c44 => ?_) (fun c44 => ?_)
           ·replace hz42 := of_bif_t hz42 c44
            refine awp_skip (then_norm (awp_seq (awp_block (awp_seq (awp_go hmix (go_run' ttok 1 rfl ?_))))))
            obtain ⟨e1, hv45, hz42⟩ := of_obind hz42
            refine go_indexT encSp sv.1 vv e1 hv45 ttok rfl rfl rfl rfl rfl rfl rfl rfl rfl ?_
            refine go_run' ttok 4 rfl (go_nil nd (then_norm (awp_go hmix (go_run' ttok 7 rfl ?_))))
            obtain ⟨e2, hv46, hz42⟩ := of_obind hz42
            refine go_indexT I products vv e2 hv46 ttok rfl rfl rfl rfl rfl rfl rfl rfl rfl ?_
            refine go_run' ttok 3 rfl ?_
            obtain ⟨bv, hv47, hz42⟩ := of_let hz42
            refine go_callR (.agg [(I bv.x.a), (I bv.x.b), (I bv.y.a), (I bv.y.b), (I bv.z.a), (I bv.z.b)]) [] [(4, some ⟨44, 18, [(.agg [(S b.Id), (S b.Log), (S b.Species), (I b.Product), (I b.Box.x.a), (I b.Box.x.b), (I b.Box.y.a), (I b.Box.y.b), (I b.Box.z.a), (I b.Box.z.b), (I b.Volume), (encL encDf b.Defects), (I b.Wane), (I b.Cell.Surf), (I b.Cell.Core), (I b.Cell.Stress), (B b.Dried), (I b.Grade)])]⟩), (19, some ⟨4, 1, [(B alongX)]⟩), (24, some ⟨3, 1, [(I low)]⟩)] [(1000, some 4), (1001, some 19), (1002, some 24)] [(4, some 1000), (19, some 1001), (24, some 1002)] fn49 (resaw_Boards_1_w e1 b alongX low bv hv47) rfl rfl rfl rfl rfl trivial ⟨(wkP_refl _ rfl), ⟨rfl, rfl, rfl⟩, ⟨rfl, rfl, rfl⟩, ⟨rfl, rfl, rfl⟩, trivial⟩ rfl rfl ⟨⟨_, rfl, rfl, rfl, .inl ⟨rfl, nr_one rfl⟩⟩, ⟨_, rfl, rfl, rfl, .inl ⟨rfl, nr_one rfl⟩⟩, ⟨_, rfl, rfl, rfl, .inl ⟨rfl, nr_one rfl⟩⟩, trivial⟩ rfl rfl ⟨⟨_, rfl, rfl, rfl, .inl ⟨rfl, nr_one rfl⟩⟩, ⟨_, rfl, rfl, rfl, .inl ⟨rfl, nr_one rfl⟩⟩, ⟨_, rfl, rfl, rfl, .inl ⟨rfl, nr_one rfl⟩⟩, trivial⟩ (wkP_refl _ rfl) rfl (fun h => absurd rfl h) ⟨rfl, rfl, rfl, trivial⟩ rfl rfl rfl ?_
            refine go_run' ttok 5 rfl ?_
            obtain ⟨wv, hv48, hz42⟩ := of_let hz42
            refine go_call fn50 (resaw_with_w (⟨(⟨0, (W64 (b.Box.x.b - b.Box.x.a))⟩ : Sp), (⟨0, (W64 (b.Box.y.b - b.Box.y.a))⟩ : Sp), (⟨0, (W64 (b.Box.z.b - b.Box.z.a))⟩ : Sp)⟩ : Bx) alongX e1 wv hv48) rfl rfl rfl rfl rfl rfl rfl ?_
            obtain ⟨cv2, hv49, hz42⟩ := of_obind hz42
            refine go_call fn51 (defect_Clip_w b.Defects wv cv2 hv49) rfl rfl rfl rfl rfl rfl rfl ?_
            refine go_run' ttok 8 rfl ?_
            obtain ⟨l, hv50, hz42⟩ := of_obind hz42
            refine go_appT encTBoard boards1 ([(⟨(⟨#[]⟩ : ByteArray), b.Log, b.Species, e2, bv, 0, cv2, b.Wane, b.Cell, b.Dried, 0⟩ : TBoard)]) l hv50 (fun _ => rfl) (by first | rfl | (simp [setI]; done) | omega | (dsimp only; omega) | (simp [setI]; omega)) (by first | rfl | (simp [setI]; done) | omega | (dsimp only; omega) | (simp [setI]; omega)) ttok rfl rfl rfl rfl rfl rfl rfl rfl rfl rfl rfl rfl rfl rfl rfl rfl rfl ?_
            refine go_run' ttok 1 rfl ?_
            refine go_nil (fun _ => by kernel_rfl) ?_
            refine block_norm (then_norm (awp_go hmix (go_run' ttok 2 rfl (go_nil nd ?_))))
            have e51 := of_some hz42
            subst e51
            refine then_norm ⟨rfl, (l, (W64 (vv + 1))), [(8, some 181), (4, some 4), (19, some 19), (23, some 23), (24, some 24), (26, some 26)], ⟨rfl, rfl, rfl, rfl, rfl, ⟨⟨rfl, rfl, (by first | rfl | (simp [setI]; done) | omega | (dsimp only; omega) | (simp [setI]; omega))⟩, wkP_id _ rfl, trivial⟩, ⟨⟨_, rfl, rfl, rfl, wkX_map (enc := encTBoard) l (fun _ => rfl)⟩, trivial⟩⟩, hk43⟩
           ·replace hz42 := of_bif_f hz42 c44
            refine awp_exit (then_exit ?_)
            obtain ⟨t2, hn52, hq⟩ := of_mapr' hz42
            subst hq
            have hq : t2 = _ := hk43
            subst hq
            refine then_exit (block_here ?_)
            have e53 := of_some hn52
            refine then_norm ⟨rfl, boards1, [(8, some 8), (23, some 23), (4, some 4), (19, some 19), (24, some 24)], ⟨rfl, rfl, rfl, rfl, rfl, ⟨⟨rfl, rfl, (by first | rfl | (simp [setI]; done) | omega | (dsimp only; omega) | (simp [setI]; omega))⟩, trivial⟩, ⟨⟨_, rfl, rfl, rfl, wkX_map (enc := encTBoard) boards1 (fun _ => rfl)⟩, trivial⟩⟩, e53⟩
          ·intro boards hw41
           subst hw41
           obtain ⟨y4, hx54, h⟩ := of_obind h
           refine awp_seqJ (X := (List Bx)) [10, 23, 25] [23, 4, 19, 24] (fun w4 => [(8, (.arr 8 0 boards.length)), (9, (.arr 9 0 w4.length))]) (fun w4 => [(8, some ⟨44, 18, boards.map encTBoard⟩), (9, some ⟨39, 6, w4.map encBx⟩)]) (fun w4 => w4 = y4) rfl rfl ?_ ?_
           ·skip
            refine awp_seq (awp_go hmix (go_run' ttok 1 rfl ?_))
            refine go_lenT encSp sv.2.1 ttok rfl rfl rfl rfl rfl rfl ?_
            refine go_run' ttok 1 rfl (go_nil nd (then_norm (awp_block ?_)))
            refine awp_loopD (X := ((List Bx) × Int)) (Y := (List Bx)) [10, 23, 25, 183, 184] [23, 4, 19, 24] (fun q => [(9, (.arr 9 0 q.1.length)), (185, (I q.2)), (8, (.arr 8 0 boards.length))]) (fun q => [(9, some ⟨39, 6, q.1.map encBx⟩), (8, some ⟨44, 18, boards.map encTBoard⟩)]) (fun q => resaw_Boards_s2 b alongX sv low q.1 q.2) ([], 0) [(9, none), (8, some 8), (23, some 23), (4, some 4), (19, some 19), (24, some 24)] hx54 ⟨rfl, rfl, rfl, rfl, rfl, ⟨⟨rfl, rfl, (by first | rfl | (simp [setI]; done) | omega | (dsimp only; omega) | (simp [setI]; omega))⟩, wkP_id _ rfl, ⟨rfl, rfl, (by first | rfl | (simp [setI]; done) | omega | (dsimp only; omega) | (simp [setI]; omega))⟩, trivial⟩, ⟨rfl, ⟨_, rfl, rfl, rfl, wkX_map (enc := encTBoard) boards (fun _ => rfl)⟩, trivial⟩⟩ (fun x1 vR1 vz1 hz56 hk57 => ?_)
            obtain ⟨dust1, vv1⟩ := x1
            change resaw_Boards_s2 b alongX sv low dust1 vv1 = _ at hz56
            unfold resaw_Boards_s2 at hz56
            refine awp_seq (awp_go hmix (go_run' ttok 1 rfl (go_nil nd (then_norm (awp_seq ?_)))))
            refine awp_cond (b := (decide (vv1 < ((sv.2.1.length : Nat) : Int)))) rfl (fun c58 => ?_) (fun c58 => ?_)
            ·replace hz56 := of_bif_t hz56 c58
             refine awp_skip (then_norm (awp_seq (awp_block (awp_seq (awp_go hmix ?_)))))
             obtain ⟨e3, hv59, hz56⟩ := of_obind hz56
             refine go_indexT encSp sv.2.1 vv1 e3 hv59 ttok rfl rfl rfl rfl rfl rfl rfl rfl rfl ?_
             refine go_run' ttok 3 rfl (go_nil nd (then_norm (awp_go hmix (go_run' ttok 3 rfl ?_))))
             obtain ⟨bv1, hv60, hz56⟩ := of_let hz56
             refine go_callR (.agg [(I bv1.x.a), (I bv1.x.b), (I bv1.y.a), (I bv1.y.b), (I bv1.z.a), (I bv1.z.b)]) [] [(4, some ⟨44, 18, [(.agg [(S b.Id), (S b.Log), (S b.Species), (I b.Product), (I b.Box.x.a), (I b.Box.x.b), (I b.Box.y.a), (I b.Box.y.b), (I b.Box.z.a), (I b.Box.z.b), (I b.Volume), (encL encDf b.Defects), (I b.Wane), (I b.Cell.Surf), (I b.Cell.Core), (I b.Cell.Stress), (B b.Dried), (I b.Grade)])]⟩), (19, some ⟨4, 1, [(B alongX)]⟩), (24, some ⟨3, 1, [(I low)]⟩)] [(1000, some 4), (1001, some 19), (1002, some 24)] [(4, some 1000), (19, some 1001), (24, some 1002)] fn49 (resaw_Boards_1_w e3 b alongX low bv1 hv60) rfl rfl rfl rfl rfl trivial ⟨(wkP_refl _ rfl), ⟨rfl, rfl, rfl⟩, ⟨rfl, rfl, rfl⟩, ⟨rfl, rfl, rfl⟩, trivial⟩ rfl rfl ⟨⟨_, rfl, rfl, rfl, .inl ⟨rfl, nr_one rfl⟩⟩, ⟨_, rfl, rfl, rfl, .inl ⟨rfl, nr_one rfl⟩⟩, ⟨_, rfl, rfl, rfl, .inl ⟨rfl, nr_one rfl⟩⟩, trivial⟩ rfl rfl ⟨⟨_, rfl, rfl, rfl, .inl ⟨rfl, nr_one rfl⟩⟩, ⟨_, rfl, rfl, rfl, .inl ⟨rfl, nr_one rfl⟩⟩, ⟨_, rfl, rfl, rfl, .inl ⟨rfl, nr_one rfl⟩⟩, trivial⟩ (wkP_refl _ rfl) rfl (fun h => absurd rfl h) ⟨rfl, rfl, rfl, trivial⟩ rfl rfl rfl ?_
             refine go_run' ttok 1 rfl ?_
             obtain ⟨l1, hv61, hz56⟩ := of_obind hz56
             refine go_appT encBx dust1 ([bv1]) l1 hv61 (fun _ => rfl) (by first | rfl | (simp [setI]; done) | omega | (dsimp only; omega) | (simp [setI]; omega)) (by first | rfl | (simp [setI]; done) | omega | (dsimp only; omega) | (simp [setI]; omega)) ttok rfl rfl rfl rfl rfl rfl rfl rfl rfl rfl rfl rfl rfl rfl rfl rfl rfl ?_
             refine go_run' ttok 1 rfl (go_nil nd (block_norm (then_norm (awp_go hmix (go_run' ttok 2 rfl (go_nil nd ?_))))))
             have e62 := of_some hz56
             subst e62
             refine then_norm ⟨rfl, (l1, (W64 (vv1 + 1))), [(9, some 194), (8, some 8), (23, some 23), (4, some 4), (19, some 19), (24, some 24)], ⟨rfl, rfl, rfl, rfl, rfl, ⟨⟨rfl, rfl, (by first | rfl | (simp [setI]; done) | omega | (dsimp only; omega) | (simp [setI]; omega))⟩, wkP_id _ rfl, ⟨rfl, rfl, (by first | rfl | (simp [setI]; done) | omega | (dsimp only; omega) | (simp [setI]; omega))⟩, trivial⟩, ⟨⟨_, rfl, rfl, rfl, wkX_map (enc := encBx) l1 (fun _ => rfl)⟩, ⟨_, rfl, rfl, rfl, wkX_map (enc := encTBoard) boards (fun _ => rfl)⟩, trivial⟩⟩, hk57⟩
            ·replace hz56 := of_bif_f hz56 c58
             refine awp_exit (then_exit ?_)
             obtain ⟨t3, hn63, hq⟩ := of_mapr' hz56
             subst hq
             have hq : t3 = _ := hk57
             subst hq
             refine then_exit (block_here ?_)
             have e64 := of_some hn63
             refine then_norm ⟨rfl, dust1, [(8, some 8), (9, some 9), (23, some 23), (4, some 4), (19, some 19), (24, some 24)], ⟨rfl, rfl, rfl, rfl, rfl, ⟨⟨rfl, rfl, (by first | rfl | (simp [setI]; done) | omega | (dsimp only; omega) | (simp [setI]; omega))⟩, ⟨rfl, rfl, (by first | rfl | (simp [setI]; done) | omega | (dsimp only; omega) | (simp [setI]; omega))⟩, trivial⟩, ⟨⟨_, rfl, rfl, rfl, wkX_map (enc := encTBoard) boards (fun _ => rfl)⟩, ⟨_, rfl, rfl, rfl, wkX_map (enc := encBx) dust1 (fun _ => rfl)⟩, trivial⟩⟩, e64⟩
           ·intro dust hw55
            subst hw55
            refine awp_seq (awp_seq (awp_go hmix (go_run' ttok 1 rfl ?_)))
            refine go_call fn52 (span_Len_w sv.2.2.1 _ rfl) rfl rfl rfl rfl rfl rfl rfl ?_
            refine go_run' ttok 1 rfl (go_nil nd (then_norm ?_))
            refine awp_cond (b := (decide (0 < (span_Len_g sv.2.2.1)))) rfl (fun c65 => ?_) (fun c65 => ?_)
            ·replace h := of_bif_t h c65
             refine awp_go hmix (go_run' ttok 3 rfl ?_)
             obtain ⟨bv2, hv66, h⟩ := of_let h
             refine go_callR (.agg [(I bv2.x.a), (I bv2.x.b), (I bv2.y.a), (I bv2.y.b), (I bv2.z.a), (I bv2.z.b)]) [] [(4, some ⟨44, 18, [(.agg [(S b.Id), (S b.Log), (S b.Species), (I b.Product), (I b.Box.x.a), (I b.Box.x.b), (I b.Box.y.a), (I b.Box.y.b), (I b.Box.z.a), (I b.Box.z.b), (I b.Volume), (encL encDf b.Defects), (I b.Wane), (I b.Cell.Surf), (I b.Cell.Core), (I b.Cell.Stress), (B b.Dried), (I b.Grade)])]⟩), (19, some ⟨4, 1, [(B alongX)]⟩), (24, some ⟨3, 1, [(I low)]⟩)] [(1000, some 4), (1001, some 19), (1002, some 24)] [(4, some 1000), (19, some 1001), (24, some 1002)] fn49 (resaw_Boards_1_w sv.2.2.1 b alongX low bv2 hv66) rfl rfl rfl rfl rfl trivial ⟨(wkP_refl _ rfl), ⟨rfl, rfl, rfl⟩, ⟨rfl, rfl, rfl⟩, ⟨rfl, rfl, rfl⟩, trivial⟩ rfl rfl ⟨⟨_, rfl, rfl, rfl, .inl ⟨rfl, nr_one rfl⟩⟩, ⟨_, rfl, rfl, rfl, .inl ⟨rfl, nr_one rfl⟩⟩, ⟨_, rfl, rfl, rfl, .inl ⟨rfl, nr_one rfl⟩⟩, trivial⟩ rfl rfl ⟨⟨_, rfl, rfl, rfl, .inl ⟨rfl, nr_one rfl⟩⟩, ⟨_, rfl, rfl, rfl, .inl ⟨rfl, nr_one rfl⟩⟩, ⟨_, rfl, rfl, rfl, .inl ⟨rfl, nr_one rfl⟩⟩, trivial⟩ (wkP_refl _ rfl) rfl (fun h => absurd rfl h) ⟨rfl, rfl, rfl, trivial⟩ rfl rfl rfl ?_
             refine go_run' ttok 1 rfl ?_
             obtain ⟨l2, hv67, h⟩ := of_obind h
             refine go_appTn encBx ([bv2]) l2 hv67 (fun _ => rfl) (by first | rfl | (simp [setI]; done) | omega | (dsimp only; omega) | (simp [setI]; omega)) ttok rfl rfl rfl rfl rfl rfl rfl rfl rfl rfl rfl rfl rfl rfl ?_
             refine go_run' ttok 1 rfl (go_nil nd (then_norm (awp_seq (awp_go hmix (go_run' ttok 7 rfl (go_nil nd (then_norm ?_)))))))
             refine awp_freezeM [11] [] [(8, some ⟨44, 18, boards.map encTBoard⟩), (9, some ⟨39, 6, dust.map encBx⟩), (204, some ⟨39, 6, l2.map encBx⟩)] [] [(8, (encL encTBoard boards)), (9, (encL encBx dust)), (10, (encL encBx l2))] [] rfl rfl rfl rfl rfl ⟨rfl, by decide, rfl, by decide, rfl, by decide, trivial⟩ ⟨(wkP_lend rfl (by first | rfl | (simp [setI]; done) | omega | (dsimp only; omega) | (simp [setI]; omega)) (fun _ => rfl)), (wkP_lend rfl (by first | rfl | (simp [setI]; done) | omega | (dsimp only; omega) | (simp [setI]; omega)) (fun _ => rfl)), (wkP_lend rfl (by first | rfl | (simp [setI]; done) | omega | (dsimp only; omega) | (simp [setI]; omega)) (fun _ => rfl)), trivial⟩ trivial ?_
             refine awp_ret ?_
             have e68 := of_some h
             subst e68
             refine ret_ret ?_
             refine fin0 ttok rfl rfl ?_
             exact wkP_refl _ rfl
            ·replace h := of_bif_f h c65
             refine awp_skip (then_norm (awp_seq (awp_go hmix (go_run' ttok 7 rfl (go_nil nd (then_norm ?_))))))
             refine awp_freezeM [10, 11] [] [(8, some ⟨44, 18, boards.map encTBoard⟩), (9, some ⟨39, 6, dust.map encBx⟩)] [] [(8, (encL encTBoard boards)), (9, (encL encBx dust))] [] rfl rfl rfl rfl rfl ⟨rfl, by decide, rfl, by decide, trivial⟩ ⟨(wkP_lend rfl (by first | rfl | (simp [setI]; done) | omega | (dsimp only; omega) | (simp [setI]; omega)) (fun _ => rfl)), (wkP_lend rfl (by first | rfl | (simp [setI]; done) | omega | (dsimp only; omega) | (simp [setI]; omega)) (fun _ => rfl)), trivial⟩ trivial ?_
             refine awp_ret ?_
             have e69 := of_some h
             subst e69
             refine ret_ret ?_
             refine fin0 ttok rfl rfl ?_
             exact ⟨(wkP_refl _ rfl), (wkP_refl _ rfl), wkP_nilm, (wkP_refl _ rfl), trivial⟩
noncomputable def resaw_Boards_cs1 (N : Nat) (b : TBoard) (products : (List Int)) (alongX : Bool) (sv : ((List Sp) × (List Sp) × Sp × Int)) (low : Int) (boards1 : (List TBoard)) (vv : Int) : Option (((List TBoard) × Int) ⊕ (List TBoard)) :=
 (bif (decide (vv < ((sv.1.length : Nat) : Int))) then (Option.bind (getI sv.1 vv) (fun e1 => (Option.bind (getI products vv) (fun e2 => (letB (resaw_Boards_1_g e1 b alongX low) (fun bv => (letB (resaw_with_g (⟨(⟨0, (W64 (b.Box.x.b - b.Box.x.a))⟩ : Sp), (⟨0, (W64 (b.Box.y.b - b.Box.y.a))⟩ : Sp), (⟨0, (W64 (b.Box.z.b - b.Box.z.a))⟩ : Sp)⟩ : Bx) alongX e1) (fun wv => (Option.bind ((defect_Clip_c N) b.Defects wv) (fun cv2 => (Option.bind (appO 184 boards1 ([(⟨(⟨#[]⟩ : ByteArray), b.Log, b.Species, e2, bv, 0, cv2, b.Wane, b.Cell, b.Dried, 0⟩ : TBoard)])) (fun l => some (Sum.inl (l, (W64 (vv + 1)))))))))))))))) else some (Sum.inr boards1))
theorem resaw_Boards_cs1_le (N : Nat) (b : TBoard) (products : (List Int)) (alongX : Bool) (sv : ((List Sp) × (List Sp) × Sp × Int)) (low : Int) (boards1 : (List TBoard)) (vv : Int) : OLe (resaw_Boards_cs1 N b products alongX sv low boards1 vv) (resaw_Boards_s1 b products alongX sv low boards1 vv) := by
 unfold resaw_Boards_cs1 resaw_Boards_s1
 repeat' (first | exact ole_rfl | exact product_Check_le _ _ | exact resaw_checkBoard_le _ _ | exact resaw_thicknesses_le _ _ _ _ _ | exact resaw_Spans_le _ _ _ _ | exact defect_Clip_le _ _ _ | refine ole_bif ?_ ?_ | refine ole_bind ?_ (fun _ => ?_) | refine ole_let (fun _ => ?_) | refine ole_map ?_ | refine ole_elim (fun _ => ?_) (fun _ => ?_) | refine ole_loop (fun _ => ?_))
noncomputable def resaw_Boards_cs2 (N : Nat) (b : TBoard) (alongX : Bool) (sv : ((List Sp) × (List Sp) × Sp × Int)) (low : Int) (dust1 : (List Bx)) (vv1 : Int) : Option (((List Bx) × Int) ⊕ (List Bx)) :=
 (bif (decide (vv1 < ((sv.2.1.length : Nat) : Int))) then (Option.bind (getI sv.2.1 vv1) (fun e3 => (letB (resaw_Boards_1_g e3 b alongX low) (fun bv1 => (Option.bind (appO 48 dust1 ([bv1])) (fun l1 => some (Sum.inl (l1, (W64 (vv1 + 1)))))))))) else some (Sum.inr dust1))
theorem resaw_Boards_cs2_le (N : Nat) (b : TBoard) (alongX : Bool) (sv : ((List Sp) × (List Sp) × Sp × Int)) (low : Int) (dust1 : (List Bx)) (vv1 : Int) : OLe (resaw_Boards_cs2 N b alongX sv low dust1 vv1) (resaw_Boards_s2 b alongX sv low dust1 vv1) := by
 unfold resaw_Boards_cs2 resaw_Boards_s2
 repeat' (first | exact ole_rfl | exact product_Check_le _ _ | exact resaw_checkBoard_le _ _ | exact resaw_thicknesses_le _ _ _ _ _ | exact resaw_Spans_le _ _ _ _ | exact defect_Clip_le _ _ _ | exact resaw_Boards_cs1_le _ _ _ _ _ _ _ _ | refine ole_bif ?_ ?_ | refine ole_bind ?_ (fun _ => ?_) | refine ole_let (fun _ => ?_) | refine ole_map ?_ | refine ole_elim (fun _ => ?_) (fun _ => ?_) | refine ole_loop (fun _ => ?_))
noncomputable def resaw_Boards_c (N : Nat) (b : TBoard) (c : (List TProduct)) (products : (List Int)) (kerf : Int) : Option ((List TBoard) × (List Bx) × (List Bx) × Int) :=
 (Option.bind ((product_Check_c N) c) (fun cv => (bif (cv != 0) then some ([], [], [], cv) else (bif (decide (b.Product < 0)) then some ([], [], [], 8) else (bif (decide (((c.length : Nat) : Int) ≤ b.Product)) then some ([], [], [], 8) else (Option.bind ((resaw_checkBoard_c N) b) (fun cv1 => (bif (cv1 != 0) then some ([], [], [], cv1) else (Option.bind (getI c b.Product) (fun e => (letB (product_Green_g e) (fun gv => (letB ((bif ((W64 (b.Box.x.b - b.Box.x.a)) == gv.1) then ((W64 (b.Box.y.b - b.Box.y.a)) == gv.2) else false) : Bool) (fun alongX => (Option.bind ((bif (!alongX) then (bif ((W64 (b.Box.y.b - b.Box.y.a)) != gv.1) then some (Sum.inl ([], [], [], 20)) else (bif ((W64 (b.Box.x.b - b.Box.x.a)) != gv.2) then some (Sum.inl ([], [], [], 20)) else some (Sum.inr ()))) else some (Sum.inr ())) : Option (((List TBoard) × (List Bx) × (List Bx) × Int) ⊕ Unit)) (Sum.elim (fun q => some q) (fun _ => (Option.bind ((resaw_thicknesses_c N) c products gv.2 (W64 (b.Box.z.b - b.Box.z.a))) (fun tv => (bif (tv.2 != 0) then some ([], [], [], tv.2) else (Option.bind ((resaw_Spans_c N) gv.1 kerf tv.1) (fun sv => (bif (sv.2.2.2 != 0) then some ([], [], [], sv.2.2.2) else (letB ((bif alongX then b.Box.x.a else b.Box.y.a) : Int) (fun low => (Option.bind ((iterX N (fun q => resaw_Boards_cs1 N b products alongX sv low q.1 q.2) ([], 0)) : Option (List TBoard)) (fun boards => (Option.bind ((iterX N (fun q => resaw_Boards_cs2 N b alongX sv low q.1 q.2) ([], 0)) : Option (List Bx)) (fun dust => (bif (decide (0 < (span_Len_g sv.2.2.1))) then (letB (resaw_Boards_1_g sv.2.2.1 b alongX low) (fun bv2 => (Option.bind (appO 48 ([] : List Bx) ([bv2])) (fun l2 => some (boards, dust, l2, 0))))) else some (boards, dust, [], 0)))))))))))))))))))))))))))))))
theorem resaw_Boards_le (N : Nat) (b : TBoard) (c : (List TProduct)) (products : (List Int)) (kerf : Int) : OLe (resaw_Boards_c N b c products kerf) (resaw_Boards_g b c products kerf) := by
 unfold resaw_Boards_c resaw_Boards_g
 repeat' (first | exact ole_rfl | exact product_Check_le _ _ | exact resaw_checkBoard_le _ _ | exact resaw_thicknesses_le _ _ _ _ _ | exact resaw_Spans_le _ _ _ _ | exact defect_Clip_le _ _ _ | exact resaw_Boards_cs1_le _ _ _ _ _ _ _ _ | exact resaw_Boards_cs2_le _ _ _ _ _ _ _ | refine ole_bif ?_ ?_ | refine ole_bind ?_ (fun _ => ?_) | refine ole_let (fun _ => ?_) | refine ole_map ?_ | refine ole_elim (fun _ => ?_) (fun _ => ?_) | refine ole_loop (fun _ => ?_))

/-- sawmill/sawmilllaw27.of -/
noncomputable def l27_of_g (x : Tsawmilllaw27_Split) : Option ((List TBoard) × (List Bx) × (List Bx) × Int) :=
 (Option.bind (resaw_Boards_g x.Board x.Products x.Parts x.Kerf) (fun bv => some (bv.1, bv.2.1, bv.2.2.1, bv.2.2.2)))
theorem l27_of_w (x : Tsawmilllaw27_Split) (r : ((List TBoard) × (List Bx) × (List Bx) × Int)) (h : l27_of_g x = some r) : Holds Try.prog 23 [(encTsawmilllaw27_Split x)] [] (.tup [((encL encTBoard) r.1), ((encL encBx) r.2.1), ((encL encBx) r.2.2.1), (I r.2.2.2)]) [] := by
 unfold l27_of_g at h
 refine holds_fn Try.func23 rfl Try.ntmps23 rfl rfl rfl (fun lim => ?_)
 refine awp_seq (awp_go hmix (go_run' ttok 5 rfl (go_nil nd (then_norm (awp_seq (awp_go hmix (go_run' ttok 8 rfl ?_)))))))
 obtain ⟨bv, hv1, h⟩ := of_obind h
 refine go_call fn38 (resaw_Boards_w x.Board x.Products x.Parts x.Kerf bv hv1) rfl rfl rfl rfl rfl rfl rfl ?_
 refine go_run' ttok 8 rfl (go_nil nd (then_norm (awp_ret ?_)))
 have e2 := of_some h
 subst e2
 refine ret_ret ?_
 refine fin0 ttok rfl rfl ?_
 exact wkP_refl _ rfl
noncomputable def l27_of_c (N : Nat) (x : Tsawmilllaw27_Split) : Option ((List TBoard) × (List Bx) × (List Bx) × Int) :=
 (Option.bind ((resaw_Boards_c N) x.Board x.Products x.Parts x.Kerf) (fun bv => some (bv.1, bv.2.1, bv.2.2.1, bv.2.2.2)))
theorem l27_of_le (N : Nat) (x : Tsawmilllaw27_Split) : OLe (l27_of_c N x) (l27_of_g x) := by
 unfold l27_of_c l27_of_g
 repeat' (first | exact ole_rfl | exact resaw_Boards_le _ _ _ _ _ | refine ole_bif ?_ ?_ | refine ole_bind ?_ (fun _ => ?_) | refine ole_let (fun _ => ?_) | refine ole_map ?_ | refine ole_elim (fun _ => ?_) (fun _ => ?_) | refine ole_loop (fun _ => ?_))

theorem eqT29_1 : eqB Try.prog shSp 29 = true := by kernel_rfl
theorem eqT29_2 : (Try.prog).eqGuardType (Try.prog).depth 29 = false := by kernel_rfl

/-- sawmill/sawmilllaw27.awake -/
noncomputable def l27_awake_g : Option Bool :=
 (Option.bind (resaw_Spans_g 42 4 ([18, 18])) (fun sv => (Option.bind (resaw_Most_g 42 4 ([18, 10]) ([5, 3])) (fun mv => (letB l27_sample_g (fun sv1 => (Option.bind (l27_of_g sv1) (fun ov => (bif (sv.2.2.2 != 0) then some false else (bif (mv.2.2 != 0) then some false else (bif (ov.2.2.2 != 0) then some false else (bif (((sv.1.length : Nat) : Int) != 2) then some false else (bif (((sv.2.1.length : Nat) : Int) != 2) then some false else (bif (((mv.1.length : Nat) : Int) != 2) then some false else (bif (((ov.1.length : Nat) : Int) != 2) then some false else (bif (((ov.2.1.length : Nat) : Int) != 2) then some false else (Option.bind (getI sv.1 0) (fun e => (bif (eqV encSp e (⟨0, 18⟩ : Sp)) then (Option.bind (getI sv.1 1) (fun e1 => (bif (eqV encSp e1 (⟨22, 40⟩ : Sp)) then (Option.bind (getI sv.2.1 0) (fun e2 => (bif (eqV encSp e2 (⟨18, 22⟩ : Sp)) then (Option.bind (getI sv.2.1 1) (fun e3 => (bif (eqV encSp e3 (⟨40, 42⟩ : Sp)) then (bif (eqV encSp sv.2.2.1 (⟨0, 0⟩ : Sp)) then (Option.bind (getI mv.1 0) (fun e4 => (bif (e4 == 0) then (Option.bind (getI mv.1 1) (fun e5 => (bif (e5 == 0) then (bif (mv.2.1 == 10) then (Option.bind (getI ov.1 0) (fun e6 => (bif (eqV encSp e6.Box.y (⟨10, 28⟩ : Sp)) then (Option.bind (getI ov.1 1) (fun e7 => (bif (eqV encSp e7.Box.y (⟨32, 50⟩ : Sp)) then (Option.bind (getI ov.1 1) (fun e8 => (bif (e8.Product == 1) then (Option.bind (getI ov.1 0) (fun e9 => (bif (bEq e9.Id (⟨#[]⟩ : ByteArray)) then (bif (((ov.2.2.1.length : Nat) : Int) == 0) then (Option.bind (resaw_Check_g 42 4 ([18, 21])) (fun cv => some (cv == 20))) else some false) else some false))) else some false))) else some false))) else some false))) else some false) else some false))) else some false))) else some false) else some false))) else some false))) else some false))) else some false)))))))))))))))))))
theorem l27_awake_w (r : Bool) (h : l27_awake_g = some r) : Holds Try.prog 12 [] [] (B r) [] := by
 unfold l27_awake_g at h
 refine holds_fn Try.func12 rfl Try.ntmps12 rfl rfl rfl (fun lim => ?_)
 refine awp_seq (awp_go hmix (go_run' ttok 1 rfl (go_nil nd (then_norm (awp_seq ?_)))))
 refine awp_goS 1 rfl rfl ?_
 refine go_run' ttok 1 rfl (go_nil nd ?_)
 refine goS_freeze [] [] [(13, some ⟨3, 1, ([18, 18]).map I⟩)] [] [(13, (encL I ([18, 18])))] [] rfl rfl rfl rfl rfl ⟨rfl, by decide, trivial⟩ ⟨(wkP_lend rfl (by first | rfl | (simp [setI]; done) | omega | (dsimp only; omega) | (simp [setI]; omega)) (fun _ => rfl)), trivial⟩ trivial ?_
 obtain ⟨sv, hv1, h⟩ := of_obind h
 refine go_call fn13 (resaw_Spans_w 42 4 ([18, 18]) sv hv1) rfl rfl rfl rfl rfl rfl rfl ?_
 refine go_run' ttok 10 rfl (go_nil nd (then_norm (awp_seq ?_)))
 refine awp_goS 2 rfl rfl ?_
 refine go_run' ttok 2 rfl (go_nil nd ?_)
 refine goS_freeze [1, 2, 3, 4] [3] [(20, some ⟨3, 1, ([18, 10]).map I⟩), (21, some ⟨3, 1, ([5, 3]).map I⟩)] [(3, some 3)] [(20, (encL I ([18, 10]))), (21, (encL I ([5, 3])))] [] rfl rfl rfl rfl rfl ⟨rfl, by decide, rfl, by decide, trivial⟩ ⟨(wkP_lend rfl (by first | rfl | (simp [setI]; done) | omega | (dsimp only; omega) | (simp [setI]; omega)) (fun _ => rfl)), (wkP_lend rfl (by first | rfl | (simp [setI]; done) | omega | (dsimp only; omega) | (simp [setI]; omega)) (fun _ => rfl)), trivial⟩ trivial ?_
 obtain ⟨mv, hv2, h⟩ := of_obind h
 refine go_call fn19 (resaw_Most_w 42 4 ([18, 10]) ([5, 3]) mv hv2) rfl rfl rfl rfl rfl rfl rfl ?_
 refine go_run' ttok 7 rfl (go_nil nd (then_norm (awp_seq (awp_go hmix ?_))))
 obtain ⟨sv1, hv3, h⟩ := of_let h
 refine go_call fn32 (l27_sample_w sv1 hv3) rfl rfl rfl rfl rfl rfl rfl ?_
 obtain ⟨ov, hv4, h⟩ := of_obind h
 refine go_call fn23 (l27_of_w sv1 ov hv4) rfl rfl rfl rfl rfl rfl rfl ?_
 refine go_run' ttok 9 rfl (go_nil nd (then_norm (awp_seq (awp_seq (awp_go hmix (go_run' ttok 3 rfl ?_))))))
 refine go_gcase rfl rfl rfl (fun g5 => ?_) (fun g5 => ?_)
 ·rw [g5]
  replace h := of_bif_t h g5
  refine go_run' ttok 32 rfl (go_nil nd (then_norm ?_))
  refine awp_cond rfl (fun tt0 => ?_) (fun h => by cases h)
  clear tt0
  refine awp_seq (awp_go hmix (go_run' ttok 1 rfl (go_nil nd (then_norm (awp_ret (then_ret ?_))))))
  have e6 := of_some h
  subst e6
  refine ret_ret ?_
  refine fin0 ttok rfl rfl ?_
  exact (wkP_refl _ rfl)
 ·rw [g5]
  replace h := of_bif_f h g5
  refine go_run' ttok 4 rfl ?_
  refine go_gcase rfl rfl rfl (fun g7 => ?_) (fun g7 => ?_)
  ·rw [g7]
   replace h := of_bif_t h g7
   refine go_run' ttok 28 rfl (go_nil nd (then_norm ?_))
   refine awp_cond rfl (fun tt0 => ?_) (fun h => by cases h)
   clear tt0
   refine awp_seq (awp_go hmix (go_run' ttok 1 rfl (go_nil nd (then_norm (awp_ret (then_ret ?_))))))
   have e8 := of_some h
   subst e8
   refine ret_ret ?_
   refine fin0 ttok rfl rfl ?_
   exact (wkP_refl _ rfl)
  ·rw [g7]
   replace h := of_bif_f h g7
   refine go_run' ttok 4 rfl ?_
   refine go_gcase rfl rfl rfl (fun g9 => ?_) (fun g9 => ?_)
   ·rw [g9]
    replace h := of_bif_t h g9
    refine go_run' ttok 24 rfl (go_nil nd (then_norm ?_))
    refine awp_cond rfl (fun tt0 => ?_) (fun h => by cases h)
    clear tt0
    refine awp_seq (awp_go hmix (go_run' ttok 1 rfl (go_nil nd (then_norm (awp_ret (then_ret ?_))))))
    have e10 := of_some h
    subst e10
    refine ret_ret ?_
    refine fin0 ttok rfl rfl ?_
    exact (wkP_refl _ rfl)
   ·rw [g9]
    replace h := of_bif_f h g9
    refine go_run' ttok 1 rfl ?_
    refine go_lenT encSp sv.1 ttok rfl rfl rfl rfl rfl rfl ?_
    refine go_run' ttok 3 rfl ?_
    refine go_gcase rfl rfl rfl (fun g11 => ?_) (fun g11 => ?_)
    ·rw [g11]
     replace h := of_bif_t h g11
     refine go_run' ttok 19 rfl (go_nil nd (then_norm ?_))
     refine awp_cond rfl (fun tt0 => ?_) (fun h => by cases h)
     clear tt0
     refine awp_seq (awp_go hmix (go_run' ttok 1 rfl (go_nil nd (then_norm (awp_ret (then_ret ?_))))))
     have e12 := of_some h
     subst e12
     refine ret_ret ?_
     refine fin0 ttok rfl rfl ?_
     exact (wkP_refl _ rfl)
    ·rw [g11]
     replace h := of_bif_f h g11
     refine go_run' ttok 1 rfl ?_
     refine go_lenT encSp sv.2.1 ttok rfl rfl rfl rfl rfl rfl ?_
     refine go_run' ttok 3 rfl ?_
     refine go_gcase rfl rfl rfl (fun g13 => ?_) (fun g13 => ?_)
     ·rw [g13]
      replace h := of_bif_t h g13
      refine go_run' ttok 14 rfl (go_nil nd (then_norm ?_))
      refine awp_cond rfl (fun tt0 => ?_) (fun h => by cases h)
      clear tt0
      refine awp_seq (awp_go hmix (go_run' ttok 1 rfl (go_nil nd (then_norm (awp_ret (then_ret ?_))))))
      have e14 := of_some h
      subst e14
      refine ret_ret ?_
      refine fin0 ttok rfl rfl ?_
      exact (wkP_refl _ rfl)
     ·rw [g13]
      replace h := of_bif_f h g13
      refine go_run' ttok 1 rfl ?_
      refine go_lenT I mv.1 ttok rfl rfl rfl rfl rfl rfl ?_
      refine go_run' ttok 3 rfl ?_
      refine go_gcase rfl rfl rfl (fun g15 => ?_) (fun g15 => ?_)
      ·rw [g15]
       replace h := of_bif_t h g15
       refine go_run' ttok 9 rfl (go_nil nd (then_norm ?_))
       refine awp_cond rfl (fun tt0 => ?_) (fun h => by cases h)
       clear tt0
       refine awp_seq (awp_go hmix (go_run' ttok 1 rfl (go_nil nd (then_norm (awp_ret (then_ret ?_))))))
       have e16 := of_some h
       subst e16
       refine ret_ret ?_
       refine fin0 ttok rfl rfl ?_
       exact (wkP_refl _ rfl)
      ·rw [g15]
       replace h := of_bif_f h g15
       refine go_run' ttok 1 rfl ?_
       refine go_lenT encTBoard ov.1 ttok rfl rfl rfl rfl rfl rfl ?_
       refine go_run' ttok 3 rfl ?_
       refine go_gcase rfl rfl rfl (fun g17 => ?_) (fun g17 => ?_)
       ·rw [g17]
        replace h := of_bif_t h g17
        refine go_run' ttok 4 rfl (go_nil nd (then_norm ?_))
        refine awp_cond rfl (fun tt0 => ?_) (fun h => by cases h)
        clear tt0
        refine awp_seq (awp_go hmix (go_run' ttok 1 rfl (go_nil nd (then_norm (awp_ret (then_ret ?_))))))
        have e18 := of_some h
        subst e18
        refine ret_ret ?_
        refine fin0 ttok rfl rfl ?_
        exact (wkP_refl _ rfl)
       ·rw [g17]
        replace h := of_bif_f h g17
        refine go_run' ttok 1 rfl ?_
        refine go_lenT encBx ov.2.1 ttok rfl rfl rfl rfl rfl rfl ?_
        refine go_run' ttok 2 rfl (go_nil nd (then_norm ?_))
        refine awp_cond (b := (((ov.2.1.length : Nat) : Int) != 2)) rfl (fun c19 => ?_) (fun c19 => ?_)
        ·replace h := of_bif_t h c19
         refine awp_seq (awp_go hmix (go_run' ttok 1 rfl (go_nil nd (then_norm (awp_ret (then_ret ?_))))))
         have e20 := of_some h
         subst e20
         refine ret_ret ?_
         refine fin0 ttok rfl rfl ?_
         exact (wkP_refl _ rfl)
        ·replace h := of_bif_f h c19
         refine awp_skip (then_norm (awp_seq (awp_go hmix (go_run' ttok 1 rfl ?_))))
         obtain ⟨e, hv21, h⟩ := of_obind h
         refine go_indexT encSp sv.1 0 e hv21 ttok rfl rfl rfl rfl rfl rfl rfl rfl rfl ?_
         refine go_run' ttok 2 rfl ?_
         refine go_step rfl (as_eqAgg shSp rfl eqT29_1 eqT29_2 (by decide) rfl rfl rfl rfl rfl) rfl rfl rfl ?_
         refine go_run' ttok 1 rfl ?_
         refine go_gcase rfl rfl rfl (fun g22 => ?_) (fun g22 => ?_)
         ·rw [g22]
          replace h := of_bif_t h g22
          refine go_run' ttok 1 rfl ?_
          obtain ⟨e1, hv23, h⟩ := of_obind h
          refine go_indexT encSp sv.1 1 e1 hv23 ttok rfl rfl rfl rfl rfl rfl rfl rfl rfl ?_
          refine go_run' ttok 2 rfl ?_
          refine go_step rfl (as_eqAgg shSp rfl eqT29_1 eqT29_2 (by decide) rfl rfl rfl rfl rfl) rfl rfl rfl ?_
          refine go_run' ttok 2 rfl ?_
          refine go_gcase rfl rfl rfl (fun g24 => ?_) (fun g24 => ?_)
          ·rw [g24]
           replace h := of_bif_t h g24
           refine go_run' ttok 1 rfl ?_
           obtain ⟨e2, hv25, h⟩ := of_obind h
           refine go_indexT encSp sv.2.1 0 e2 hv25 ttok rfl rfl rfl rfl rfl rfl rfl rfl rfl ?_
           refine go_run' ttok 2 rfl ?_
           refine go_step rfl (as_eqAgg shSp rfl eqT29_1 eqT29_2 (by decide) rfl rfl rfl rfl rfl) rfl rfl rfl ?_
           refine go_run' ttok 2 rfl ?_
           refine go_gcase rfl rfl rfl (fun g26 => ?_) (fun g26 => ?_)
           ·rw [g26]
            replace h := of_bif_t h g26
            refine go_run' ttok 1 rfl ?_
            obtain ⟨e3, hv27, h⟩ := of_obind h
            refine go_indexT encSp sv.2.1 1 e3 hv27 ttok rfl rfl rfl rfl rfl rfl rfl rfl rfl ?_
            refine go_run' ttok 2 rfl ?_
            refine go_step rfl (as_eqAgg shSp rfl eqT29_1 eqT29_2 (by decide) rfl rfl rfl rfl rfl) rfl rfl rfl ?_
            refine go_run' ttok 2 rfl ?_
            refine go_gcase rfl rfl rfl (fun g28 => ?_) (fun g28 => ?_)
            ·rw [g28]
             replace h := of_bif_t h g28
             refine go_run' ttok 2 rfl ?_
             refine go_step rfl (as_eqAgg shSp rfl eqT29_1 eqT29_2 (by decide) rfl rfl rfl rfl rfl) rfl rfl rfl ?_
             refine go_run' ttok 2 rfl ?_
             refine go_gcase rfl rfl rfl (fun g29 => ?_) (fun g29 => ?_)
             ·rw [g29]
              replace h := of_bif_t h g29
              refine go_run' ttok 1 rfl ?_
              obtain ⟨e4, hv30, h⟩ := of_obind h
              refine go_indexT I mv.1 0 e4 hv30 ttok rfl rfl rfl rfl rfl rfl rfl rfl rfl ?_
              refine go_run' ttok 4 rfl ?_
              refine go_gcase rfl rfl rfl (fun g31 => ?_) (fun g31 => ?_)
              ·rw [g31]
               replace h := of_bif_t h g31
               refine go_run' ttok 1 rfl ?_
               obtain ⟨e5, hv32, h⟩ := of_obind h
               refine go_indexT I mv.1 1 e5 hv32 ttok rfl rfl rfl rfl rfl rfl rfl rfl rfl ?_
               refine go_run' ttok 4 rfl ?_
               refine go_gcase rfl rfl rfl (fun g33 => ?_) (fun g33 => ?_)
               ·rw [g33]
                replace h := of_bif_t h g33
                refine go_run' ttok 4 rfl ?_
                refine go_gcase rfl rfl rfl (fun g34 => ?_) (fun g34 => ?_)
                ·rw [g34]
                 replace h := of_bif_t h g34
                 refine go_run' ttok 1 rfl ?_
                 obtain ⟨e6, hv35, h⟩ := of_obind h
                 refine go_indexT encTBoard ov.1 0 e6 hv35 ttok rfl rfl rfl rfl rfl rfl rfl rfl rfl ?_
                 refine go_run' ttok 4 rfl ?_
                 refine go_step rfl (as_eqAgg shSp rfl eqT29_1 eqT29_2 (by decide) rfl rfl rfl rfl rfl) rfl rfl rfl ?_
                 refine go_run' ttok 2 rfl ?_
                 refine go_gcase rfl rfl rfl (fun g36 => ?_) (fun g36 => ?_)
                 ·rw [g36]
                  replace h := of_bif_t h g36
                  refine go_run' ttok 1 rfl ?_
                  obtain ⟨e7, hv37, h⟩ := of_obind h
                  refine go_indexT encTBoard ov.1 1 e7 hv37 ttok rfl rfl rfl rfl rfl rfl rfl rfl rfl ?_
                  refine go_run' ttok 4 rfl ?_
                  refine go_step rfl (as_eqAgg shSp rfl eqT29_1 eqT29_2 (by decide) rfl rfl rfl rfl rfl) rfl rfl rfl ?_
                  refine go_run' ttok 2 rfl ?_
                  refine go_gcase rfl rfl rfl (fun g38 => ?_) (fun g38 => ?_)
                  ·rw [g38]
                   replace h := of_bif_t h g38
                   refine go_run' ttok 1 rfl ?_
                   obtain ⟨e8, hv39, h⟩ := of_obind h
                   refine go_indexT encTBoard ov.1 1 e8 hv39 ttok rfl rfl rfl rfl rfl rfl rfl rfl rfl ?_
                   refine go_run' ttok 5 rfl ?_
                   refine go_gcase rfl rfl rfl (fun g40 => ?_) (fun g40 => ?_)
                   ·rw [g40]
                    replace h := of_bif_t h g40
                    refine go_run' ttok 1 rfl ?_
                    obtain ⟨e9, hv41, h⟩ := of_obind h
                    refine go_indexT encTBoard ov.1 0 e9 hv41 ttok rfl rfl rfl rfl rfl rfl rfl rfl rfl ?_
                    refine go_run' ttok 2 rfl ?_
                    refine go_eqlS e9.Id (⟨#[]⟩ : ByteArray) rfl rfl rfl rfl rfl ?_
                    refine go_run' ttok 2 rfl ?_
                    refine go_gcase rfl rfl rfl (fun g42 => ?_) (fun g42 => ?_)
                    ·rw [g42]
                     replace h := of_bif_t h g42
                     refine go_run' ttok 1 rfl ?_
                     refine go_lenT encBx ov.2.2.1 ttok rfl rfl rfl rfl rfl rfl ?_
                     refine go_run' ttok 3 rfl ?_
                     refine go_gcase rfl rfl rfl (fun g43 => ?_) (fun g43 => ?_)
                     ·rw [g43]
                      replace h := of_bif_t h g43
                      refine go_run' ttok 1 rfl ?_
                      obtain ⟨cv, hv44, h⟩ := of_obind h
                      refine go_callL (L := [(153, some ⟨3, 1, ([18, 21]).map I⟩)]) fn15 (resaw_Check_w 42 4 ([18, 21]) cv hv44) rfl rfl rfl ⟨rfl, List.not_mem_nil, trivial⟩ ⟨(wkP_refl _ rfl), (wkP_refl _ rfl), (wkP_lend rfl (by first | rfl | (simp [setI]; done) | omega | (dsimp only; omega) | (simp [setI]; omega)) (fun _ => rfl)), trivial⟩ rfl rfl (fun _ => rfl) rfl ?_
                      refine go_run' ttok 3 rfl (go_nil nd (then_norm (awp_ret ?_)))
                      have e45 := of_some h
                      subst e45
                      refine ret_ret ?_
                      refine fin0 ttok rfl rfl ?_
                      exact (wkP_refl _ rfl)
                     ·rw [g43]
                      replace h := of_bif_f h g43
                      refine go_run' ttok 5 rfl (go_nil nd (then_norm (awp_ret ?_)))
                      have e46 := of_some h
                      subst e46
                      refine ret_ret ?_
                      refine fin0 ttok rfl rfl ?_
                      exact (wkP_refl _ rfl)
                    ·rw [g42]
                     replace h := of_bif_f h g42
                     refine go_run' ttok 10 rfl (go_nil nd (then_norm (awp_ret ?_)))
                     have e47 := of_some h
                     subst e47
                     refine ret_ret ?_
                     refine fin0 ttok rfl rfl ?_
                     exact (wkP_refl _ rfl)
                   ·rw [g40]
                    replace h := of_bif_f h g40
                    refine go_run' ttok 17 rfl (go_nil nd (then_norm (awp_ret ?_)))
                    have e48 := of_some h
                    subst e48
                    refine ret_ret ?_
                    refine fin0 ttok rfl rfl ?_
                    exact (wkP_refl _ rfl)
                  ·rw [g38]
                   replace h := of_bif_f h g38
                   refine go_run' ttok 24 rfl (go_nil nd (then_norm (awp_ret ?_)))
                   have e49 := of_some h
                   subst e49
                   refine ret_ret ?_
                   refine fin0 ttok rfl rfl ?_
                   exact (wkP_refl _ rfl)
                 ·rw [g36]
                  replace h := of_bif_f h g36
                  refine go_run' ttok 33 rfl (go_nil nd (then_norm (awp_ret ?_)))
                  have e50 := of_some h
                  subst e50
                  refine ret_ret ?_
                  refine fin0 ttok rfl rfl ?_
                  exact (wkP_refl _ rfl)
                ·rw [g34]
                 replace h := of_bif_f h g34
                 refine go_run' ttok 42 rfl (go_nil nd (then_norm (awp_ret ?_)))
                 have e51 := of_some h
                 subst e51
                 refine ret_ret ?_
                 refine fin0 ttok rfl rfl ?_
                 exact (wkP_refl _ rfl)
               ·rw [g33]
                replace h := of_bif_f h g33
                refine go_run' ttok 46 rfl (go_nil nd (then_norm (awp_ret ?_)))
                have e52 := of_some h
                subst e52
                refine ret_ret ?_
                refine fin0 ttok rfl rfl ?_
                exact (wkP_refl _ rfl)
              ·rw [g31]
               replace h := of_bif_f h g31
               refine go_run' ttok 52 rfl (go_nil nd (then_norm (awp_ret ?_)))
               have e53 := of_some h
               subst e53
               refine ret_ret ?_
               refine fin0 ttok rfl rfl ?_
               exact (wkP_refl _ rfl)
             ·rw [g29]
              replace h := of_bif_f h g29
              refine go_run' ttok 58 rfl (go_nil nd (then_norm (awp_ret ?_)))
              have e54 := of_some h
              subst e54
              refine ret_ret ?_
              refine fin0 ttok rfl rfl ?_
              exact (wkP_refl _ rfl)
            ·rw [g28]
             replace h := of_bif_f h g28
             refine go_run' ttok 63 rfl (go_nil nd (then_norm (awp_ret ?_)))
             have e55 := of_some h
             subst e55
             refine ret_ret ?_
             refine fin0 ttok rfl rfl ?_
             exact (wkP_refl _ rfl)
           ·rw [g26]
            replace h := of_bif_f h g26
            refine go_run' ttok 70 rfl (go_nil nd (then_norm (awp_ret ?_)))
            have e56 := of_some h
            subst e56
            refine ret_ret ?_
            refine fin0 ttok rfl rfl ?_
            exact (wkP_refl _ rfl)
          ·rw [g24]
           replace h := of_bif_f h g24
           refine go_run' ttok 77 rfl (go_nil nd (then_norm (awp_ret ?_)))
           have e57 := of_some h
           subst e57
           refine ret_ret ?_
           refine fin0 ttok rfl rfl ?_
           exact (wkP_refl _ rfl)
         ·rw [g22]
          replace h := of_bif_f h g22
          refine go_run' ttok 84 rfl (go_nil nd (then_norm (awp_ret ?_)))
          have e58 := of_some h
          subst e58
          refine ret_ret ?_
          refine fin0 ttok rfl rfl ?_
          exact (wkP_refl _ rfl)
noncomputable def l27_awake_c (N : Nat) : Option Bool :=
 (Option.bind ((resaw_Spans_c N) 42 4 ([18, 18])) (fun sv => (Option.bind ((resaw_Most_c N) 42 4 ([18, 10]) ([5, 3])) (fun mv => (letB l27_sample_g (fun sv1 => (Option.bind ((l27_of_c N) sv1) (fun ov => (bif (sv.2.2.2 != 0) then some false else (bif (mv.2.2 != 0) then some false else (bif (ov.2.2.2 != 0) then some false else (bif (((sv.1.length : Nat) : Int) != 2) then some false else (bif (((sv.2.1.length : Nat) : Int) != 2) then some false else (bif (((mv.1.length : Nat) : Int) != 2) then some false else (bif (((ov.1.length : Nat) : Int) != 2) then some false else (bif (((ov.2.1.length : Nat) : Int) != 2) then some false else (Option.bind (getI sv.1 0) (fun e => (bif (eqV encSp e (⟨0, 18⟩ : Sp)) then (Option.bind (getI sv.1 1) (fun e1 => (bif (eqV encSp e1 (⟨22, 40⟩ : Sp)) then (Option.bind (getI sv.2.1 0) (fun e2 => (bif (eqV encSp e2 (⟨18, 22⟩ : Sp)) then (Option.bind (getI sv.2.1 1) (fun e3 => (bif (eqV encSp e3 (⟨40, 42⟩ : Sp)) then (bif (eqV encSp sv.2.2.1 (⟨0, 0⟩ : Sp)) then (Option.bind (getI mv.1 0) (fun e4 => (bif (e4 == 0) then (Option.bind (getI mv.1 1) (fun e5 => (bif (e5 == 0) then (bif (mv.2.1 == 10) then (Option.bind (getI ov.1 0) (fun e6 => (bif (eqV encSp e6.Box.y (⟨10, 28⟩ : Sp)) then (Option.bind (getI ov.1 1) (fun e7 => (bif (eqV encSp e7.Box.y (⟨32, 50⟩ : Sp)) then (Option.bind (getI ov.1 1) (fun e8 => (bif (e8.Product == 1) then (Option.bind (getI ov.1 0) (fun e9 => (bif (bEq e9.Id (⟨#[]⟩ : ByteArray)) then (bif (((ov.2.2.1.length : Nat) : Int) == 0) then (Option.bind ((resaw_Check_c N) 42 4 ([18, 21])) (fun cv => some (cv == 20))) else some false) else some false))) else some false))) else some false))) else some false))) else some false) else some false))) else some false))) else some false) else some false))) else some false))) else some false))) else some false)))))))))))))))))))
theorem l27_awake_le (N : Nat) : OLe (l27_awake_c N) (l27_awake_g) := by
 unfold l27_awake_c l27_awake_g
 repeat' (first | exact ole_rfl | exact resaw_Spans_le _ _ _ _ | exact resaw_Most_le _ _ _ _ _ | exact l27_of_le _ _ | exact resaw_Check_le _ _ _ _ | refine ole_bif ?_ ?_ | refine ole_bind ?_ (fun _ => ?_) | refine ole_let (fun _ => ?_) | refine ole_map ?_ | refine ole_elim (fun _ => ?_) (fun _ => ?_) | refine ole_loop (fun _ => ?_))

/-- sawmill/sawmillref27.cut -/
noncomputable def r27_cut_g (thick : Int) (kerf : Int) : Bool :=
 (bif (decide (1 ≤ thick)) then (bif (decide (thick ≤ 600)) then (bif (decide (0 ≤ kerf)) then (decide (kerf ≤ 20)) else false) else false) else false)
theorem r27_cut_w (thick : Int) (kerf : Int) (r : Bool) (h : r27_cut_g thick kerf = r) : Holds Try.prog 35 [(I thick), (I kerf)] [] (B r) [] := by
 unfold r27_cut_g at h
 refine holds_fn Try.func35 rfl Try.ntmps35 rfl rfl rfl (fun lim => ?_)
 refine awp_seq (awp_go hmix (go_run' ttok 1 rfl (go_nil nd (then_norm (awp_seq (awp_go hmix (go_run' ttok 3 rfl ?_)))))))
 refine go_gcase rfl rfl rfl (fun g1 => ?_) (fun g1 => ?_)
 ·rw [g1]
  replace h := of_bif_t h g1
  refine go_run' ttok 4 rfl ?_
  refine go_gcase rfl rfl rfl (fun g2 => ?_) (fun g2 => ?_)
  ·rw [g2]
   replace h := of_bif_t h g2
   refine go_run' ttok 4 rfl ?_
   refine go_gcase rfl rfl rfl (fun g3 => ?_) (fun g3 => ?_)
   ·rw [g3]
    replace h := of_bif_t h g3
    refine go_run' ttok 4 rfl (go_nil nd (then_norm (awp_ret ?_)))
    have e4 := h
    subst e4
    refine ret_ret ?_
    refine fin0 ttok rfl rfl ?_
    exact (wkP_refl _ rfl)
   ·rw [g3]
    replace h := of_bif_f h g3
    refine go_run' ttok 4 rfl (go_nil nd (then_norm (awp_ret ?_)))
    have e5 := h
    subst e5
    refine ret_ret ?_
    refine fin0 ttok rfl rfl ?_
    exact (wkP_refl _ rfl)
  ·rw [g2]
   replace h := of_bif_f h g2
   refine go_run' ttok 8 rfl (go_nil nd (then_norm (awp_ret ?_)))
   have e6 := h
   subst e6
   refine ret_ret ?_
   refine fin0 ttok rfl rfl ?_
   exact (wkP_refl _ rfl)
 ·rw [g1]
  replace h := of_bif_f h g1
  refine go_run' ttok 12 rfl (go_nil nd (then_norm (awp_ret ?_)))
  have e7 := h
  subst e7
  refine ret_ret ?_
  refine fin0 ttok rfl rfl ?_
  exact (wkP_refl _ rfl)

noncomputable def r27_Check_s1 (thick : Int) (parts : (List Int)) (i : Int) : Option (Int ⊕ (Int ⊕ Unit)) :=
 (bif (decide (i < ((parts.length : Nat) : Int))) then (Option.bind (getI parts i) (fun e => (bif (decide (e < 1)) then some (Sum.inr (Sum.inl 9)) else (Option.bind (getI parts i) (fun e1 => (bif (decide (thick < e1)) then some (Sum.inr (Sum.inl 9)) else some (Sum.inl (W64 (i + 1))))))))) else some (Sum.inr (Sum.inr ())))
noncomputable def r27_Check_s2 (kerf : Int) (parts : (List Int)) (n1 : Int) (i1 : Int) : Option ((Int × Int) ⊕ Int) :=
 (bif (decide (i1 < ((parts.length : Nat) : Int))) then (Option.bind (getI parts i1) (fun e2 => some (Sum.inl ((W64 ((W64 (n1 + kerf)) + e2)), (W64 (i1 + 1)))))) else some (Sum.inr n1))
/-- sawmill/sawmillref27.Check -/
noncomputable def r27_Check_g (thick : Int) (kerf : Int) (parts : (List Int)) : Option Int :=
 (bif (!(r27_cut_g thick kerf)) then some 9 else (bif (((parts.length : Nat) : Int) == 0) then some 3 else (bif (decide (8 < ((parts.length : Nat) : Int))) then some 4 else (Option.bind ((loopO (fun q => r27_Check_s1 thick parts q) 0) : Option (Int ⊕ Unit)) (Sum.elim (fun q => some q) (fun _ => (Option.bind ((loopO (fun q => r27_Check_s2 kerf parts q.1 q.2) ((W64 (0 - kerf)), 0)) : Option Int) (fun n => (bif (decide (thick < n)) then some 20 else some 0)))))))))
theorem r27_Check_w (thick : Int) (kerf : Int) (parts : (List Int)) (r : Int) (h : r27_Check_g thick kerf parts = some r) : Holds Try.prog 16 [(I thick), (I kerf), ((encL I) parts)] [] (I r) [] := by
 unfold r27_Check_g at h
 refine holds_fn Try.func16 rfl Try.ntmps16 rfl rfl rfl (fun lim => ?_)
 refine awp_seq (awp_go hmix (go_run' ttok 1 rfl (go_nil nd (then_norm (awp_seq (awp_seq (awp_go hmix (go_run' ttok 2 rfl ?_))))))))
 refine go_call fn35 (r27_cut_w thick kerf _ rfl) rfl rfl rfl rfl rfl rfl rfl ?_
 refine go_run' ttok 1 rfl (go_nil nd (then_norm ?_))
 refine awp_cond (b := (!(r27_cut_g thick kerf))) rfl (fun c1 => ?_) (fun c1 => ?_)
 ·replace h := of_bif_t h c1
  refine awp_seq (awp_go hmix (go_run' ttok 1 rfl (go_nil nd (then_norm (awp_ret (then_ret ?_))))))
  have e2 := of_some h
  subst e2
  refine ret_ret ?_
  refine fin0 ttok rfl rfl ?_
  exact (wkP_refl _ rfl)
 ·replace h := of_bif_f h c1
  refine awp_skip (then_norm (awp_seq (awp_seq (awp_go hmix (go_run' ttok 1 rfl ?_)))))
  refine go_lenT I parts ttok rfl rfl rfl rfl rfl rfl ?_
  refine go_run' ttok 1 rfl (go_nil nd (then_norm ?_))
  refine awp_cond (b := (((parts.length : Nat) : Int) == 0)) rfl (fun c3 => ?_) (fun c3 => ?_)
  ·replace h := of_bif_t h c3
   refine awp_seq (awp_go hmix (go_run' ttok 1 rfl (go_nil nd (then_norm (awp_ret (then_ret ?_))))))
   have e4 := of_some h
   subst e4
   refine ret_ret ?_
   refine fin0 ttok rfl rfl ?_
   exact (wkP_refl _ rfl)
  ·replace h := of_bif_f h c3
   refine awp_skip (then_norm (awp_seq (awp_seq (awp_go hmix (go_run' ttok 1 rfl ?_)))))
   refine go_lenT I parts ttok rfl rfl rfl rfl rfl rfl ?_
   refine go_run' ttok 1 rfl (go_nil nd (then_norm ?_))
   refine awp_cond (b := (decide (8 < ((parts.length : Nat) : Int)))) rfl (fun c5 => ?_) (fun c5 => ?_)
   ·replace h := of_bif_t h c5
    refine awp_seq (awp_go hmix (go_run' ttok 1 rfl (go_nil nd (then_norm (awp_ret (then_ret ?_))))))
    have e6 := of_some h
    subst e6
    refine ret_ret ?_
    refine fin0 ttok rfl rfl ?_
    exact (wkP_refl _ rfl)
   ·replace h := of_bif_f h c5
    refine awp_skip (then_norm ?_)
    obtain ⟨y, hx7, h⟩ := of_obind h
    refine awp_seqJ (X := Unit) [0, 1, 2] [] (fun _ => []) (fun _ => []) (fun w => Sum.inr w = y) rfl rfl ?_ ?_
    ·skip
     refine awp_seq (awp_go hmix (go_run' ttok 1 rfl (go_nil nd (then_norm (awp_block ?_)))))
     refine awp_loopD (X := Int) (Y := (Int ⊕ Unit)) [0, 1, 2] [] (fun q => [(7, (I q))]) (fun q => []) (fun q => r27_Check_s1 thick parts q) 0 [] hx7 ⟨rfl, rfl, rfl, rfl, rfl, ⟨wkP_id _ rfl, trivial⟩, trivial⟩ (fun i vR vz hz9 hk10 => ?_)
     change r27_Check_s1 thick parts i = _ at hz9
     unfold r27_Check_s1 at hz9
     refine awp_seq (awp_seq (awp_go hmix (go_run' ttok 2 rfl ?_)))
     refine go_lenT I parts ttok rfl rfl rfl rfl rfl rfl ?_
     refine go_run' ttok 1 rfl (go_nil nd (then_norm ?_))
     refine awp_cond (b := (decide (i < ((parts.length : Nat) : Int)))) rfl (fun c11 => ?_) (fun c11 => ?_)
     ·replace hz9 := of_bif_t hz9 c11
      refine awp_skip (then_norm (awp_seq (awp_block (awp_seq (awp_go hmix (go_run' ttok 2 rfl ?_))))))
      obtain ⟨e, hv12, hz9⟩ := of_obind hz9
      refine go_indexT I parts i e hv12 ttok rfl rfl rfl rfl rfl rfl rfl rfl rfl ?_
      refine go_run' ttok 3 rfl ?_
      refine go_gcase rfl rfl rfl (fun g13 => ?_) (fun g13 => ?_)
      ·rw [g13]
       replace hz9 := of_bif_t hz9 g13
       refine go_run' ttok 7 rfl (go_nil nd (then_norm ?_))
       refine awp_cond rfl (fun tt0 => ?_) (fun h => by cases h)
       clear tt0
       refine awp_seq (awp_go hmix (go_run' ttok 1 rfl (go_nil nd (then_norm (awp_ret (block_ret (then_ret ?_)))))))
       obtain ⟨t, hn14, hq⟩ := of_mapr' hz9
       subst hq
       have hq : t = _ := hk10
       subst hq
       refine then_ret (block_ret ?_)
       obtain ⟨t1, hn15, hq⟩ := of_mapl' hn14
       subst hq
       have hq := of_inl h
       replace hq := of_some hq
       subst hq
       refine then_ret ?_
       have e16 := of_some hn15
       subst e16
       refine ret_ret ?_
       refine fin0 ttok rfl rfl ?_
       exact (wkP_refl _ rfl)
      ·rw [g13]
       replace hz9 := of_bif_f hz9 g13
       refine go_run' ttok 2 rfl ?_
       obtain ⟨e1, hv17, hz9⟩ := of_obind hz9
       refine go_indexT I parts i e1 hv17 ttok rfl rfl rfl rfl rfl rfl rfl rfl rfl ?_
       refine go_run' ttok 4 rfl (go_nil nd (then_norm ?_))
       refine awp_cond (b := (decide (thick < e1))) rfl (fun c18 => ?_) (fun c18 => ?_)
       ·replace hz9 := of_bif_t hz9 c18
        refine awp_seq (awp_go hmix (go_run' ttok 1 rfl (go_nil nd (then_norm (awp_ret (block_ret (then_ret ?_)))))))
        obtain ⟨t2, hn19, hq⟩ := of_mapr' hz9
        subst hq
        have hq : t2 = _ := hk10
        subst hq
        refine then_ret (block_ret ?_)
        obtain ⟨t3, hn20, hq⟩ := of_mapl' hn19
        subst hq
        have hq := of_inl h
        replace hq := of_some hq
        subst hq
        refine then_ret ?_
        have e21 := of_some hn20
        subst e21
        refine ret_ret ?_
        refine fin0 ttok rfl rfl ?_
        exact (wkP_refl _ rfl)
       ·replace hz9 := of_bif_f hz9 c18
        refine awp_skip (block_norm (then_norm (awp_go hmix (go_run' ttok 3 rfl (go_nil nd ?_)))))
        have e22 := of_some hz9
        subst e22
        refine then_norm ⟨rfl, (W64 (i + 1)), [], ⟨rfl, rfl, rfl, rfl, rfl, ⟨wkP_id _ rfl, trivial⟩, trivial⟩, hk10⟩
     ·replace hz9 := of_bif_f hz9 c11
      refine awp_exit (then_exit ?_)
      obtain ⟨t4, hn23, hq⟩ := of_mapr' hz9
      subst hq
      have hq : t4 = _ := hk10
      subst hq
      refine then_exit (block_here ?_)
      have e24 := of_some hn23
      refine then_norm ⟨rfl, (), [], ⟨rfl, rfl, rfl, rfl, rfl, trivial, trivial⟩, e24⟩
    ·intro w hw8
     subst hw8
     replace h := of_inr h
     refine awp_seq (awp_go hmix (go_run' ttok 3 rfl (go_nil nd (then_norm ?_))))
     obtain ⟨y1, hx25, h⟩ := of_obind h
     refine awp_seqJ (X := Int) [0] [] (fun w1 => [(8, (I w1))]) (fun w1 => []) (fun w1 => w1 = y1) rfl rfl ?_ ?_
     ·skip
      refine awp_seq (awp_go hmix (go_run' ttok 1 rfl (go_nil nd (then_norm (awp_block ?_)))))
      refine awp_loopD (X := (Int × Int)) (Y := Int) [0, 1, 2] [] (fun q => [(8, (I q.1)), (9, (I q.2))]) (fun q => []) (fun q => r27_Check_s2 kerf parts q.1 q.2) ((W64 (0 - kerf)), 0) [] hx25 ⟨rfl, rfl, rfl, rfl, rfl, ⟨wkP_id _ rfl, wkP_id _ rfl, trivial⟩, trivial⟩ (fun x vR1 vz1 hz27 hk28 => ?_)
      obtain ⟨n1, i1⟩ := x
      change r27_Check_s2 kerf parts n1 i1 = _ at hz27
      unfold r27_Check_s2 at hz27
      refine awp_seq (awp_seq (awp_go hmix (go_run' ttok 2 rfl ?_)))
      refine go_lenT I parts ttok rfl rfl rfl rfl rfl rfl ?_
      refine go_run' ttok 1 rfl (go_nil nd (then_norm ?_))
      refine awp_cond (b := (decide (i1 < ((parts.length : Nat) : Int)))) rfl (fun c29 => ?_) (fun c29 => ?_)
      ·replace hz27 := of_bif_t hz27 c29
       refine awp_skip (then_norm (awp_seq (awp_block (awp_go hmix (go_run' ttok 5 rfl ?_)))))
       obtain ⟨e2, hv30, hz27⟩ := of_obind hz27
       refine go_indexT I parts i1 e2 hv30 ttok rfl rfl rfl rfl rfl rfl rfl rfl rfl ?_
       refine go_run' ttok 3 rfl (go_nil nd (block_norm (then_norm (awp_go hmix (go_run' ttok 3 rfl (go_nil nd ?_))))))
       have e31 := of_some hz27
       subst e31
       refine then_norm ⟨rfl, ((W64 ((W64 (n1 + kerf)) + e2)), (W64 (i1 + 1))), [], ⟨rfl, rfl, rfl, rfl, rfl, ⟨wkP_id _ rfl, wkP_id _ rfl, trivial⟩, trivial⟩, hk28⟩
      ·replace hz27 := of_bif_f hz27 c29
       refine awp_exit (then_exit ?_)
       obtain ⟨t5, hn32, hq⟩ := of_mapr' hz27
       subst hq
       have hq : t5 = _ := hk28
       subst hq
       refine then_exit (block_here ?_)
       have e33 := of_some hn32
       refine then_norm ⟨rfl, n1, [], ⟨rfl, rfl, rfl, rfl, rfl, ⟨wkP_id _ rfl, trivial⟩, trivial⟩, e33⟩
     ·intro n hw26
      subst hw26
      refine awp_seq (awp_seq (awp_go hmix (go_run' ttok 3 rfl (go_nil nd (then_norm ?_)))))
      refine awp_cond (b := (decide (thick < n))) rfl (fun c34 => ?_) (fun c34 => ?_)
      ·replace h := of_bif_t h c34
       refine awp_seq (awp_go hmix (go_run' ttok 1 rfl (go_nil nd (then_norm (awp_ret (then_ret ?_))))))
       have e35 := of_some h
       subst e35
       refine ret_ret ?_
       refine fin0 ttok rfl rfl ?_
       exact (wkP_refl _ rfl)
      ·replace h := of_bif_f h c34
       refine awp_skip (then_norm (awp_seq (awp_go hmix (go_run' ttok 1 rfl (go_nil nd (then_norm (awp_ret ?_)))))))
       have e36 := of_some h
       subst e36
       refine ret_ret ?_
       refine fin0 ttok rfl rfl ?_
       exact (wkP_refl _ rfl)

noncomputable def r27_Spans_s1 (thick : Int) (kerf : Int) (parts : (List Int)) (boards1 : (List Sp)) (dust1 : (List Sp)) (vat1 : Int) (i : Int) : Option (((List Sp) × (List Sp) × Int × Int) ⊕ ((List Sp) × (List Sp) × Int)) :=
 (bif (decide (i < ((parts.length : Nat) : Int))) then (Option.bind (getI parts i) (fun e => (Option.bind (appO 16 boards1 ([(⟨vat1, (W64 (vat1 + e))⟩ : Sp)])) (fun l => (bif (decide ((W64 (vat1 + e)) < (min (W64 ((W64 (vat1 + e)) + kerf)) thick))) then (Option.bind (appO 16 dust1 ([(⟨(W64 (vat1 + e)), (min (W64 ((W64 (vat1 + e)) + kerf)) thick)⟩ : Sp)])) (fun l1 => some (Sum.inl (l, l1, (min (W64 ((W64 (vat1 + e)) + kerf)) thick), (W64 (i + 1)))))) else some (Sum.inl (l, dust1, (min (W64 ((W64 (vat1 + e)) + kerf)) thick), (W64 (i + 1))))))))) else some (Sum.inr (boards1, dust1, vat1)))
/-- sawmill/sawmillref27.Spans -/
noncomputable def r27_Spans_g (thick : Int) (kerf : Int) (parts : (List Int)) : Option ((List Sp) × (List Sp) × Sp × Int) :=
 (Option.bind (r27_Check_g thick kerf parts) (fun cv => (bif (cv != 0) then some ([], [], (⟨0, 0⟩ : Sp), cv) else (Option.bind ((loopO (fun q => r27_Spans_s1 thick kerf parts q.1 q.2.1 q.2.2.1 q.2.2.2) ([], [], 0, 0)) : Option ((List Sp) × (List Sp) × Int)) (fun w1 => (bif (decide (w1.2.2 < thick)) then some (w1.1, w1.2.1, (⟨w1.2.2, thick⟩ : Sp), 0) else some (w1.1, w1.2.1, (⟨0, 0⟩ : Sp), 0)))))))
theorem r27_Spans_w (thick : Int) (kerf : Int) (parts : (List Int)) (r : ((List Sp) × (List Sp) × Sp × Int)) (h : r27_Spans_g thick kerf parts = some r) : Holds Try.prog 14 [(I thick), (I kerf), ((encL I) parts)] [] (.tup [((encL encSp) r.1), ((encL encSp) r.2.1), (encSp r.2.2.1), (I r.2.2.2)]) [] := by
 unfold r27_Spans_g at h
 refine holds_fn Try.func14 rfl Try.ntmps14 rfl rfl rfl (fun lim => ?_)
 refine awp_seq (awp_go hmix (go_run' ttok 4 rfl (go_nil nd (then_norm (awp_seq (awp_seq (awp_go hmix (go_run' ttok 3 rfl ?_))))))))
 obtain ⟨cv, hv1, h⟩ := of_obind h
 refine go_call fn16 (r27_Check_w thick kerf parts cv hv1) rfl rfl rfl rfl rfl rfl rfl ?_
 refine go_run' ttok 1 rfl (go_nil nd (then_norm (awp_seq (awp_go hmix (go_run' ttok 2 rfl (go_nil nd (then_norm ?_)))))))
 refine awp_cond (b := (cv != 0)) rfl (fun c2 => ?_) (fun c2 => ?_)
 ·replace h := of_bif_t h c2
  refine awp_seq (awp_go hmix (go_run' ttok 6 rfl (go_nil nd (then_norm (awp_ret (then_ret ?_))))))
  have e3 := of_some h
  subst e3
  refine ret_ret ?_
  refine fin0 ttok rfl rfl ?_
  exact ⟨wkP_nilm, wkP_nilm, (wkP_refl _ rfl), (wkP_refl _ rfl), trivial⟩
 ·replace h := of_bif_f h c2
  refine awp_skip (then_norm (awp_seq (awp_go hmix (go_run' ttok 1 rfl (go_nil nd (then_norm ?_))))))
  obtain ⟨y, hx4, h⟩ := of_obind h
  refine awp_seqJ (X := ((List Sp) × (List Sp) × Int)) [0, 8] [8] (fun w => [(6, (.arr 6 0 w.1.length)), (7, (.arr 7 0 w.2.1.length)), (11, (I w.2.2))]) (fun w => [(6, some ⟨29, 2, w.1.map encSp⟩), (7, some ⟨29, 2, w.2.1.map encSp⟩)]) (fun w => w = y) rfl rfl ?_ ?_
  ·skip
   refine awp_seq (awp_go hmix (go_run' ttok 1 rfl (go_nil nd (then_norm (awp_block ?_)))))
   refine awp_loopD (X := ((List Sp) × (List Sp) × Int × Int)) (Y := ((List Sp) × (List Sp) × Int)) [0, 1, 2, 8] [8] (fun q => [(6, (.arr 6 0 q.1.length)), (7, (.arr 7 0 q.2.1.length)), (11, (I q.2.2.1)), (12, (I q.2.2.2))]) (fun q => [(6, some ⟨29, 2, q.1.map encSp⟩), (7, some ⟨29, 2, q.2.1.map encSp⟩)]) (fun q => r27_Spans_s1 thick kerf parts q.1 q.2.1 q.2.2.1 q.2.2.2) ([], [], 0, 0) [(6, none), (7, none), (8, some 8)] hx4 ⟨rfl, rfl, rfl, rfl, rfl, ⟨⟨rfl, rfl, (by first | rfl | (simp [setI]; done) | omega | (dsimp only; omega) | (simp [setI]; omega))⟩, ⟨rfl, rfl, (by first | rfl | (simp [setI]; done) | omega | (dsimp only; omega) | (simp [setI]; omega))⟩, wkP_id _ rfl, wkP_id _ rfl, trivial⟩, ⟨rfl, rfl, trivial⟩⟩ (fun x vR vz hz6 hk7 => ?_)
   obtain ⟨boards1, dust1, vat1, i⟩ := x
   change r27_Spans_s1 thick kerf parts boards1 dust1 vat1 i = _ at hz6
   unfold r27_Spans_s1 at hz6
   refine awp_seq (awp_seq (awp_go hmix (go_run' ttok 2 rfl ?_)))
   refine go_lenT I parts ttok rfl rfl rfl rfl rfl rfl ?_
   refine go_run' ttok 1 rfl (go_nil nd (then_norm ?_))
   refine awp_cond (b := (decide (i < ((parts.length : Nat) : Int)))) rfl (fun c8 => ?_) (fun c8 => ?_)
   ·replace hz6 := of_bif_t hz6 c8
    refine awp_skip (then_norm (awp_seq (awp_block (awp_seq (awp_go hmix (go_run' ttok 3 rfl ?_))))))
    obtain ⟨e, hv9, hz6⟩ := of_obind hz6
    refine go_indexT I parts i e hv9 ttok rfl rfl rfl rfl rfl rfl rfl rfl rfl ?_
    refine go_run' ttok 3 rfl (go_nil nd (then_norm (awp_seq (awp_go hmix (go_run' ttok 5 rfl ?_)))))
    obtain ⟨l, hv10, hz6⟩ := of_obind hz6
    refine go_appT encSp boards1 ([(⟨vat1, (W64 (vat1 + e))⟩ : Sp)]) l hv10 (fun _ => rfl) (by first | rfl | (simp [setI]; done) | omega | (dsimp only; omega) | (simp [setI]; omega)) (by first | rfl | (simp [setI]; done) | omega | (dsimp only; omega) | (simp [setI]; omega)) ttok rfl rfl rfl rfl rfl rfl rfl rfl rfl rfl rfl rfl rfl rfl rfl rfl rfl ?_
    refine go_run' ttok 1 rfl (go_nil nd (then_norm (awp_seq (awp_go hmix (go_run' ttok 6 rfl (go_nil nd (then_norm (awp_seq (awp_go hmix (go_run' ttok 3 rfl (go_nil nd (then_norm ?_))))))))))))
    refine awp_cond (b := (decide ((W64 (vat1 + e)) < (min (W64 ((W64 (vat1 + e)) + kerf)) thick)))) rfl (fun c11 => ?_) (fun c11 => ?_)
    ·replace hz6 := of_bif_t hz6 c11
     refine awp_go hmix (go_run' ttok 5 rfl ?_)
     obtain ⟨l1, hv12, hz6⟩ := of_obind hz6
     refine go_appT encSp dust1 ([(⟨(W64 (vat1 + e)), (min (W64 ((W64 (vat1 + e)) + kerf)) thick)⟩ : Sp)]) l1 hv12 (fun _ => rfl) (by first | rfl | (simp [setI]; done) | omega | (dsimp only; omega) | (simp [setI]; omega)) (by first | rfl | (simp [setI]; done) | omega | (dsimp only; omega) | (simp [setI]; omega)) ttok rfl rfl rfl rfl rfl rfl rfl rfl rfl rfl rfl rfl rfl rfl rfl rfl rfl ?_
     refine go_run' ttok 1 rfl (go_nil nd (block_norm (then_norm (awp_go hmix (go_run' ttok 3 rfl (go_nil nd ?_))))))
     have e13 := of_some hz6
     subst e13
     refine then_norm ⟨rfl, (l, l1, (min (W64 ((W64 (vat1 + e)) + kerf)) thick), (W64 (i + 1))), [(6, some 39), (7, some 53), (8, some 8)], ⟨rfl, rfl, rfl, rfl, rfl, ⟨⟨rfl, rfl, (by first | rfl | (simp [setI]; done) | omega | (dsimp only; omega) | (simp [setI]; omega))⟩, ⟨rfl, rfl, (by first | rfl | (simp [setI]; done) | omega | (dsimp only; omega) | (simp [setI]; omega))⟩, wkP_id _ rfl, wkP_id _ rfl, trivial⟩, ⟨⟨_, rfl, rfl, rfl, wkX_map (enc := encSp) l (fun _ => rfl)⟩, ⟨_, rfl, rfl, rfl, wkX_map (enc := encSp) l1 (fun _ => rfl)⟩, trivial⟩⟩, hk7⟩
    ·replace hz6 := of_bif_f hz6 c11
     refine awp_skip (block_norm (then_norm (awp_go hmix (go_run' ttok 3 rfl (go_nil nd ?_)))))
     have e14 := of_some hz6
     subst e14
     refine then_norm ⟨rfl, (l, dust1, (min (W64 ((W64 (vat1 + e)) + kerf)) thick), (W64 (i + 1))), [(6, some 39), (7, some 7), (8, some 8)], ⟨rfl, rfl, rfl, rfl, rfl, ⟨⟨rfl, rfl, (by first | rfl | (simp [setI]; done) | omega | (dsimp only; omega) | (simp [setI]; omega))⟩, ⟨rfl, rfl, (by first | rfl | (simp [setI]; done) | omega | (dsimp only; omega) | (simp [setI]; omega))⟩, wkP_id _ rfl, wkP_id _ rfl, trivial⟩, ⟨⟨_, rfl, rfl, rfl, wkX_map (enc := encSp) l (fun _ => rfl)⟩, ⟨_, rfl, rfl, rfl, wkX_map (enc := encSp) dust1 (fun _ => rfl)⟩, trivial⟩⟩, hk7⟩
   ·replace hz6 := of_bif_f hz6 c8
    refine awp_exit (then_exit ?_)
    obtain ⟨t, hn15, hq⟩ := of_mapr' hz6
    subst hq
    have hq : t = _ := hk7
    subst hq
    refine then_exit (block_here ?_)
    have e16 := of_some hn15
    refine then_norm ⟨rfl, (boards1, dust1, vat1), [(6, some 6), (7, some 7), (8, some 8)], ⟨rfl, rfl, rfl, rfl, rfl, ⟨⟨rfl, rfl, (by first | rfl | (simp [setI]; done) | omega | (dsimp only; omega) | (simp [setI]; omega))⟩, ⟨rfl, rfl, (by first | rfl | (simp [setI]; done) | omega | (dsimp only; omega) | (simp [setI]; omega))⟩, wkP_id _ rfl, trivial⟩, ⟨⟨_, rfl, rfl, rfl, wkX_map (enc := encSp) boards1 (fun _ => rfl)⟩, ⟨_, rfl, rfl, rfl, wkX_map (enc := encSp) dust1 (fun _ => rfl)⟩, trivial⟩⟩, e16⟩
  ·intro w hw5
   subst hw5
   obtain ⟨boards, dust, vat⟩ := w
   refine awp_seq (awp_seq (awp_go hmix (go_run' ttok 3 rfl (go_nil nd (then_norm ?_)))))
   refine awp_cond (b := (decide (vat < thick))) rfl (fun c17 => ?_) (fun c17 => ?_)
   ·replace h := of_bif_t h c17
    refine awp_go hmix (go_run' ttok 4 rfl (go_nil nd (then_norm (awp_seq (awp_go hmix (go_run' ttok 7 rfl ?_))))))
    refine go_nil (fun _ => by kernel_rfl) ?_
    refine then_norm ?_
    refine awp_freezeM [8, 9] [8] [(6, some ⟨29, 2, boards.map encSp⟩), (7, some ⟨29, 2, dust.map encSp⟩)] [(8, some 8)] [(6, (encL encSp boards)), (7, (encL encSp dust))] [] rfl rfl rfl rfl rfl ⟨rfl, by decide, rfl, by decide, trivial⟩ ⟨(wkP_lend rfl (by first | rfl | (simp [setI]; done) | omega | (dsimp only; omega) | (simp [setI]; omega)) (fun _ => rfl)), (wkP_lend rfl (by first | rfl | (simp [setI]; done) | omega | (dsimp only; omega) | (simp [setI]; omega)) (fun _ => rfl)), trivial⟩ trivial ?_
    refine awp_ret ?_
    have e18 := of_some h
    subst e18
    refine ret_ret ?_
    refine fin0 ttok rfl rfl ?_
    exact wkP_refl _ rfl
   ·replace h := of_bif_f h c17
    refine awp_skip (then_norm (awp_seq (awp_go hmix (go_run' ttok 7 rfl ?_))))
    refine go_nil (fun _ => by kernel_rfl) ?_
    refine then_norm ?_
    refine awp_freezeM [8, 9] [8] [(6, some ⟨29, 2, boards.map encSp⟩), (7, some ⟨29, 2, dust.map encSp⟩)] [(8, some 8)] [(6, (encL encSp boards)), (7, (encL encSp dust))] [] rfl rfl rfl rfl rfl ⟨rfl, by decide, rfl, by decide, trivial⟩ ⟨(wkP_lend rfl (by first | rfl | (simp [setI]; done) | omega | (dsimp only; omega) | (simp [setI]; omega)) (fun _ => rfl)), (wkP_lend rfl (by first | rfl | (simp [setI]; done) | omega | (dsimp only; omega) | (simp [setI]; omega)) (fun _ => rfl)), trivial⟩ trivial ?_
    refine awp_ret ?_
    have e19 := of_some h
    subst e19
    refine ret_ret ?_
    refine fin0 ttok rfl rfl ?_
    exact wkP_refl _ rfl

noncomputable def r27_SameSpans_s1 (a : (List Sp)) (b : (List Sp)) (i : Int) : Option (Int ⊕ (Bool ⊕ Unit)) :=
 (bif (decide (i < ((a.length : Nat) : Int))) then (Option.bind (getI a i) (fun e => (Option.bind (getI b i) (fun e1 => (bif (!(eqV encSp e e1)) then some (Sum.inr (Sum.inl false)) else some (Sum.inl (W64 (i + 1)))))))) else some (Sum.inr (Sum.inr ())))
/-- sawmill/sawmillref27.SameSpans -/
noncomputable def r27_SameSpans_g (a : (List Sp)) (b : (List Sp)) : Option Bool :=
 (bif (((a.length : Nat) : Int) != ((b.length : Nat) : Int)) then some false else (Option.bind ((loopO (fun q => r27_SameSpans_s1 a b q) 0) : Option (Bool ⊕ Unit)) (Sum.elim (fun q => some q) (fun _ => some true))))
theorem r27_SameSpans_w (a : (List Sp)) (b : (List Sp)) (r : Bool) (h : r27_SameSpans_g a b = some r) : Holds Try.prog 17 [((encL encSp) a), ((encL encSp) b)] [] (B r) [] := by
 unfold r27_SameSpans_g at h
 refine holds_fn Try.func17 rfl Try.ntmps17 rfl rfl rfl (fun lim => ?_)
 refine awp_seq (awp_go hmix (go_run' ttok 1 rfl (go_nil nd (then_norm (awp_seq (awp_seq (awp_go hmix (go_run' ttok 1 rfl ?_))))))))
 refine go_lenT encSp a ttok rfl rfl rfl rfl rfl rfl ?_
 refine go_run' ttok 1 rfl ?_
 refine go_lenT encSp b ttok rfl rfl rfl rfl rfl rfl ?_
 refine go_run' ttok 1 rfl (go_nil nd (then_norm ?_))
 refine awp_cond (b := (((a.length : Nat) : Int) != ((b.length : Nat) : Int))) rfl (fun c1 => ?_) (fun c1 => ?_)
 ·replace h := of_bif_t h c1
  refine awp_seq (awp_go hmix (go_run' ttok 1 rfl (go_nil nd (then_norm (awp_ret (then_ret ?_))))))
  have e2 := of_some h
  subst e2
  refine ret_ret ?_
  refine fin0 ttok rfl rfl ?_
  exact (wkP_refl _ rfl)
 ·replace h := of_bif_f h c1
  refine awp_skip (then_norm ?_)
  obtain ⟨y, hx3, h⟩ := of_obind h
  refine awp_seqJ (X := Unit) [] [] (fun _ => []) (fun _ => []) (fun w => Sum.inr w = y) rfl rfl ?_ ?_
  ·skip
   refine awp_seq (awp_go hmix (go_run' ttok 1 rfl (go_nil nd (then_norm (awp_block ?_)))))
   refine awp_loopD (X := Int) (Y := (Bool ⊕ Unit)) [0, 1] [] (fun q => [(5, (I q))]) (fun q => []) (fun q => r27_SameSpans_s1 a b q) 0 [] hx3 ⟨rfl, rfl, rfl, rfl, rfl, ⟨wkP_id _ rfl, trivial⟩, trivial⟩ (fun i vR vz hz5 hk6 => ?_)
   change r27_SameSpans_s1 a b i = _ at hz5
   unfold r27_SameSpans_s1 at hz5
   refine awp_seq (awp_seq (awp_go hmix (go_run' ttok 2 rfl ?_)))
   refine go_lenT encSp a ttok rfl rfl rfl rfl rfl rfl ?_
   refine go_run' ttok 1 rfl (go_nil nd (then_norm ?_))
   refine awp_cond (b := (decide (i < ((a.length : Nat) : Int)))) rfl (fun c7 => ?_) (fun c7 => ?_)
   ·replace hz5 := of_bif_t hz5 c7
    refine awp_skip (then_norm (awp_seq (awp_block (awp_seq (awp_go hmix (go_run' ttok 2 rfl ?_))))))
    obtain ⟨e, hv8, hz5⟩ := of_obind hz5
    refine go_indexT encSp a i e hv8 ttok rfl rfl rfl rfl rfl rfl rfl rfl rfl ?_
    refine go_run' ttok 3 rfl ?_
    obtain ⟨e1, hv9, hz5⟩ := of_obind hz5
    refine go_indexT encSp b i e1 hv9 ttok rfl rfl rfl rfl rfl rfl rfl rfl rfl ?_
    refine go_run' ttok 1 rfl ?_
    refine go_step rfl (as_neAgg shSp rfl eqT29_1 eqT29_2 (by decide) rfl rfl rfl rfl rfl) rfl rfl rfl ?_
    refine go_nil (fun _ => by kernel_rfl) ?_
    refine then_norm ?_
    refine awp_cond (b := (!(eqV encSp e e1))) rfl (fun c10 => ?_) (fun c10 => ?_)
    ·replace hz5 := of_bif_t hz5 c10
     refine awp_seq (awp_go hmix (go_run' ttok 1 rfl (go_nil nd (then_norm (awp_ret (block_ret (then_ret ?_)))))))
     obtain ⟨t, hn11, hq⟩ := of_mapr' hz5
     subst hq
     have hq : t = _ := hk6
     subst hq
     refine then_ret (block_ret ?_)
     obtain ⟨t1, hn12, hq⟩ := of_mapl' hn11
     subst hq
     have hq := of_inl h
     replace hq := of_some hq
     subst hq
     refine then_ret ?_
     have e13 := of_some hn12
     subst e13
     refine ret_ret ?_
     refine fin0 ttok rfl rfl ?_
     exact (wkP_refl _ rfl)
    ·replace hz5 := of_bif_f hz5 c10
     refine awp_skip (block_norm (then_norm (awp_go hmix (go_run' ttok 3 rfl (go_nil nd ?_)))))
     have e14 := of_some hz5
     subst e14
     refine then_norm ⟨rfl, (W64 (i + 1)), [], ⟨rfl, rfl, rfl, rfl, rfl, ⟨wkP_id _ rfl, trivial⟩, trivial⟩, hk6⟩
   ·replace hz5 := of_bif_f hz5 c7
    refine awp_exit (then_exit ?_)
    obtain ⟨t2, hn15, hq⟩ := of_mapr' hz5
    subst hq
    have hq : t2 = _ := hk6
    subst hq
    refine then_exit (block_here ?_)
    have e16 := of_some hn15
    refine then_norm ⟨rfl, (), [], ⟨rfl, rfl, rfl, rfl, rfl, trivial, trivial⟩, e16⟩
  ·intro w hw4
   subst hw4
   replace h := of_inr h
   refine awp_seq (awp_go hmix (go_run' ttok 1 rfl (go_nil nd (then_norm (awp_ret ?_)))))
   have e17 := of_some h
   subst e17
   refine ret_ret ?_
   refine fin0 ttok rfl rfl ?_
   exact (wkP_refl _ rfl)

/-- sawmill/sawmilllaw27.ResawSpans -/
noncomputable def l27_ResawSpans_g (x : Tsawmilllaw27_Parts) : Option Bool :=
 (bif (!(l27_few_g x)) then (Option.bind l27_awake_g (fun av => some av)) else (Option.bind (resaw_Spans_g x.Thick x.Kerf x.Sizes) (fun sv => (Option.bind (r27_Spans_g x.Thick x.Kerf x.Sizes) (fun sv1 => (Option.bind (resaw_Check_g x.Thick x.Kerf x.Sizes) (fun cv => (Option.bind (r27_Check_g x.Thick x.Kerf x.Sizes) (fun cv1 => (bif (cv == cv1) then (Option.bind (r27_SameSpans_g sv.1 sv1.1) (fun sv2 => (bif sv2 then (Option.bind (r27_SameSpans_g sv.2.1 sv1.2.1) (fun sv3 => (bif sv3 then (bif (eqV encSp sv.2.2.1 sv1.2.2.1) then (bif (sv.2.2.2 == sv1.2.2.2) then (Option.bind l27_awake_g (fun av1 => some av1)) else some false) else some false) else some false))) else some false))) else some false))))))))))
theorem l27_ResawSpans_w (x : Tsawmilllaw27_Parts) (r : Bool) (h : l27_ResawSpans_g x = some r) : Holds Try.prog 3 [(encTsawmilllaw27_Parts x)] [] (B r) [] := by
 unfold l27_ResawSpans_g at h
 refine holds_fn Try.func3 rfl Try.ntmps3 rfl rfl rfl (fun lim => ?_)
 refine awp_seq (awp_go hmix (go_run' ttok 2 rfl (go_nil nd (then_norm (awp_seq (awp_seq (awp_go hmix (go_run' ttok 1 rfl ?_))))))))
 refine go_call fn11 (l27_few_w x _ rfl) rfl rfl rfl rfl rfl rfl rfl ?_
 refine go_run' ttok 1 rfl (go_nil nd (then_norm ?_))
 refine awp_cond (b := (!(l27_few_g x))) rfl (fun c1 => ?_) (fun c1 => ?_)
 ·replace h := of_bif_t h c1
  refine awp_seq (awp_go hmix ?_)
  obtain ⟨av, hv2, h⟩ := of_obind h
  refine go_call fn12 (l27_awake_w av hv2) rfl rfl rfl rfl rfl rfl rfl ?_
  refine go_run' ttok 1 rfl (go_nil nd (then_norm (awp_ret (then_ret ?_))))
  have e3 := of_some h
  subst e3
  refine ret_ret ?_
  refine fin0 ttok rfl rfl ?_
  exact (wkP_refl _ rfl)
 ·replace h := of_bif_f h c1
  refine awp_skip (then_norm (awp_seq (awp_go hmix (go_run' ttok 6 rfl ?_))))
  obtain ⟨sv, hv4, h⟩ := of_obind h
  refine go_call fn13 (resaw_Spans_w x.Thick x.Kerf x.Sizes sv hv4) rfl rfl rfl rfl rfl rfl rfl ?_
  refine go_run' ttok 10 rfl (go_nil nd (then_norm (awp_seq (awp_go hmix (go_run' ttok 6 rfl ?_)))))
  obtain ⟨sv1, hv5, h⟩ := of_obind h
  refine go_call fn14 (r27_Spans_w x.Thick x.Kerf x.Sizes sv1 hv5) rfl rfl rfl rfl rfl rfl rfl ?_
  refine go_run' ttok 10 rfl (go_nil nd (then_norm (awp_seq (awp_go hmix (go_run' ttok 6 rfl ?_)))))
  obtain ⟨cv, hv6, h⟩ := of_obind h
  refine go_call fn15 (resaw_Check_w x.Thick x.Kerf x.Sizes cv hv6) rfl rfl rfl rfl rfl rfl rfl ?_
  refine go_run' ttok 6 rfl ?_
  obtain ⟨cv1, hv7, h⟩ := of_obind h
  refine go_call fn16 (r27_Check_w x.Thick x.Kerf x.Sizes cv1 hv7) rfl rfl rfl rfl rfl rfl rfl ?_
  refine go_run' ttok 2 rfl ?_
  refine go_gcase rfl rfl rfl (fun g8 => ?_) (fun g8 => ?_)
  ·rw [g8]
   replace h := of_bif_t h g8
   refine go_run' ttok 2 rfl ?_
   obtain ⟨sv2, hv9, h⟩ := of_obind h
   refine go_call fn17 (r27_SameSpans_w sv.1 sv1.1 sv2 hv9) rfl rfl rfl rfl rfl rfl rfl ?_
   refine go_run' ttok 2 rfl ?_
   refine go_gcase rfl rfl rfl (fun g10 => ?_) (fun g10 => ?_)
   ·rw [g10]
    replace h := of_bif_t h g10
    refine go_run' ttok 2 rfl ?_
    obtain ⟨sv3, hv11, h⟩ := of_obind h
    refine go_call fn17 (r27_SameSpans_w sv.2.1 sv1.2.1 sv3 hv11) rfl rfl rfl rfl rfl rfl rfl ?_
    refine go_run' ttok 2 rfl ?_
    refine go_gcase rfl rfl rfl (fun g12 => ?_) (fun g12 => ?_)
    ·rw [g12]
     replace h := of_bif_t h g12
     refine go_run' ttok 2 rfl ?_
     refine go_step rfl (as_eqAgg shSp rfl eqT29_1 eqT29_2 (by decide) rfl rfl rfl rfl rfl) rfl rfl rfl ?_
     refine go_run' ttok 2 rfl ?_
     refine go_gcase rfl rfl rfl (fun g13 => ?_) (fun g13 => ?_)
     ·rw [g13]
      replace h := of_bif_t h g13
      refine go_run' ttok 5 rfl ?_
      refine go_gcase rfl rfl rfl (fun g14 => ?_) (fun g14 => ?_)
      ·rw [g14]
       replace h := of_bif_t h g14
       obtain ⟨av1, hv15, h⟩ := of_obind h
       refine go_call fn12 (l27_awake_w av1 hv15) rfl rfl rfl rfl rfl rfl rfl ?_
       refine go_run' ttok 2 rfl ?_
       refine go_nil (fun _ => by kernel_rfl) ?_
       refine then_norm (awp_ret ?_)
       have e16 := of_some h
       subst e16
       refine ret_ret ?_
       refine fin0 ttok rfl rfl ?_
       exact (wkP_refl _ rfl)
      ·rw [g14]
       replace h := of_bif_f h g14
       refine go_run' ttok 3 rfl ?_
       refine go_nil (fun _ => by kernel_rfl) ?_
       refine then_norm (awp_ret ?_)
       have e17 := of_some h
       subst e17
       refine ret_ret ?_
       refine fin0 ttok rfl rfl ?_
       exact (wkP_refl _ rfl)
     ·rw [g13]
      replace h := of_bif_f h g13
      refine go_run' ttok 8 rfl ?_
      refine go_nil (fun _ => by kernel_rfl) ?_
      refine then_norm (awp_ret ?_)
      have e18 := of_some h
      subst e18
      refine ret_ret ?_
      refine fin0 ttok rfl rfl ?_
      exact (wkP_refl _ rfl)
    ·rw [g12]
     replace h := of_bif_f h g12
     refine go_run' ttok 13 rfl ?_
     refine go_nil (fun _ => by kernel_rfl) ?_
     refine then_norm (awp_ret ?_)
     have e19 := of_some h
     subst e19
     refine ret_ret ?_
     refine fin0 ttok rfl rfl ?_
     exact (wkP_refl _ rfl)
   ·rw [g10]
    replace h := of_bif_f h g10
    refine go_run' ttok 18 rfl ?_
    refine go_nil (fun _ => by kernel_rfl) ?_
    refine then_norm (awp_ret ?_)
    have e20 := of_some h
    subst e20
    refine ret_ret ?_
    refine fin0 ttok rfl rfl ?_
    exact (wkP_refl _ rfl)
  ·rw [g8]
   replace h := of_bif_f h g8
   refine go_run' ttok 23 rfl ?_
   refine go_nil (fun _ => by kernel_rfl) ?_
   refine then_norm (awp_ret ?_)
   have e21 := of_some h
   subst e21
   refine ret_ret ?_
   refine fin0 ttok rfl rfl ?_
   exact (wkP_refl _ rfl)

/-- sawmill/sawmilllaw27.light -/
noncomputable def l27_light_g (x : Tsawmilllaw27_Parts) : Bool :=
 (bif (l27_few_g x) then (bif (decide (x.Thick ≤ 200)) then (decide (((x.Sizes.length : Nat) : Int) ≤ 6)) else false) else false)
theorem l27_light_w (x : Tsawmilllaw27_Parts) (r : Bool) (h : l27_light_g x = r) : Holds Try.prog 18 [(encTsawmilllaw27_Parts x)] [] (B r) [] := by
 unfold l27_light_g at h
 refine holds_fn Try.func18 rfl Try.ntmps18 rfl rfl rfl (fun lim => ?_)
 refine awp_seq (awp_go hmix (go_run' ttok 2 rfl (go_nil nd (then_norm (awp_seq (awp_go hmix (go_run' ttok 1 rfl ?_)))))))
 refine go_call fn11 (l27_few_w x _ rfl) rfl rfl rfl rfl rfl rfl rfl ?_
 refine go_run' ttok 1 rfl ?_
 refine go_gcase rfl rfl rfl (fun g1 => ?_) (fun g1 => ?_)
 ·rw [g1]
  replace h := of_bif_t h g1
  refine go_run' ttok 5 rfl ?_
  refine go_gcase rfl rfl rfl (fun g2 => ?_) (fun g2 => ?_)
  ·rw [g2]
   replace h := of_bif_t h g2
   refine go_run' ttok 2 rfl ?_
   refine go_lenT I x.Sizes ttok rfl rfl rfl rfl rfl rfl ?_
   refine go_run' ttok 3 rfl (go_nil nd (then_norm (awp_ret ?_)))
   have e3 := h
   subst e3
   refine ret_ret ?_
   refine fin0 ttok rfl rfl ?_
   exact (wkP_refl _ rfl)
  ·rw [g2]
   replace h := of_bif_f h g2
   refine go_run' ttok 6 rfl (go_nil nd (then_norm (awp_ret ?_)))
   have e4 := h
   subst e4
   refine ret_ret ?_
   refine fin0 ttok rfl rfl ?_
   exact (wkP_refl _ rfl)
 ·rw [g1]
  replace h := of_bif_f h g1
  refine go_run' ttok 11 rfl (go_nil nd (then_norm (awp_ret ?_)))
  have e5 := h
  subst e5
  refine ret_ret ?_
  refine fin0 ttok rfl rfl ?_
  exact (wkP_refl _ rfl)

/-- sawmill/sawmillref27.best -/
noncomputable def r27_best_r : Nat → Int → Int → Int → (List Int) → (List Int) → (List Int) → Int → Int → Option (Int × (List Int))
 | 0 => fun _ _ _ _ _ _ _ _ => none
 | N + 1 => fun n vfirst room sizes prices known kerf wide =>
 (bif (n == 0) then some (0, known) else (bif (vfirst == ((sizes.length : Nat) : Int)) then some ((-1), known) else (Option.bind (getI known (W64 ((W64 ((W64 ((W64 (n * ((sizes.length : Nat) : Int))) + vfirst)) * wide)) + room))) (fun e => (bif (e != (-2)) then (Option.bind (getI known (W64 ((W64 ((W64 ((W64 (n * ((sizes.length : Nat) : Int))) + vfirst)) * wide)) + room))) (fun e1 => some (e1, known))) else (Option.bind (r27_best_r N n (W64 (vfirst + 1)) room sizes prices known kerf wide) (fun bv => (bif (Nat.beq bv.2.length known.length) then (Option.bind (getI sizes vfirst) (fun e2 => (bif (decide ((W64 (e2 + kerf)) ≤ room)) then (Option.bind (getI sizes vfirst) (fun e3 => (Option.bind (r27_best_r N (W64 (n - 1)) vfirst (W64 ((W64 (room - e3)) - kerf)) sizes prices bv.2 kerf wide) (fun bv1 => (bif (Nat.beq bv1.2.length bv.2.length) then (bif (decide (0 ≤ bv1.1)) then (Option.bind (getI prices vfirst) (fun e4 => (Option.bind (getI bv1.2 (W64 ((W64 ((W64 ((W64 (n * ((sizes.length : Nat) : Int))) + vfirst)) * wide)) + room))) (fun e5 => some ((max bv.1 (W64 (e4 + bv1.1))), (setI bv1.2 (W64 ((W64 ((W64 ((W64 (n * ((sizes.length : Nat) : Int))) + vfirst)) * wide)) + room)) (max bv.1 (W64 (e4 + bv1.1))))))))) else (Option.bind (getI bv1.2 (W64 ((W64 ((W64 ((W64 (n * ((sizes.length : Nat) : Int))) + vfirst)) * wide)) + room))) (fun e6 => some (bv.1, (setI bv1.2 (W64 ((W64 ((W64 ((W64 (n * ((sizes.length : Nat) : Int))) + vfirst)) * wide)) + room)) bv.1))))) else none))))) else (Option.bind (getI bv.2 (W64 ((W64 ((W64 ((W64 (n * ((sizes.length : Nat) : Int))) + vfirst)) * wide)) + room))) (fun e7 => some (bv.1, (setI bv.2 (W64 ((W64 ((W64 ((W64 (n * ((sizes.length : Nat) : Int))) + vfirst)) * wide)) + room)) bv.1))))))) else none))))))))
theorem r27_best_mono : ∀ (N : Nat) (n : Int) (vfirst : Int) (room : Int) (sizes : (List Int)) (prices : (List Int)) (known : (List Int)) (kerf : Int) (wide : Int) , OLe (r27_best_r N n vfirst room sizes prices known kerf wide) (r27_best_r (N + 1) n vfirst room sizes prices known kerf wide) := by
 intro N
 induction N with
 | zero => intro n vfirst room sizes prices known kerf wide r h; cases h
 | succ N ih =>
  intro n vfirst room sizes prices known kerf wide
  rw [r27_best_r, r27_best_r]
  repeat' (first | exact ole_rfl | exact ih _ _ _ _ _ _ _ _ | refine ole_bif ?_ ?_ | refine ole_bind ?_ (fun _ => ?_) | refine ole_let (fun _ => ?_) | refine ole_map ?_ | refine ole_elim (fun _ => ?_) (fun _ => ?_))
noncomputable def r27_best_g (n : Int) (vfirst : Int) (room : Int) (sizes : (List Int)) (prices : (List Int)) (known : (List Int)) (kerf : Int) (wide : Int) : Option (Int × (List Int)) := limO (fun N => r27_best_r N n vfirst room sizes prices known kerf wide)
theorem r27_best_rw : ∀ (N : Nat) (n : Int) (vfirst : Int) (room : Int) (sizes : (List Int)) (prices : (List Int)) (known : (List Int)) (kerf : Int) (wide : Int) (r : (Int × (List Int))) (h : r27_best_r N n vfirst room sizes prices known kerf wide = some r), Holds Try.prog 37 [(I n), (I vfirst), (I room), ((encL I) sizes), ((encL I) prices), (.arr 1305 0 known.length), (I kerf), (I wide)] [(1305, some ⟨3, 1, known.map I⟩)] (I r.1) [(1305, some ⟨3, 1, r.2.map I⟩)] := by
 intro N
 induction N with
 | zero => intro n vfirst room sizes prices known kerf wide r h; cases h
 | succ N ih =>
  intro n vfirst room sizes prices known kerf wide r h
  rw [r27_best_r] at h
  refine holds_fn Try.func37 rfl Try.ntmps37 rfl rfl rfl (fun lim => ?_)
  refine awp_seq (awp_go hmix (go_run' ttok 1 rfl (go_nil nd (then_norm (awp_seq (awp_seq (awp_go hmix (go_run' ttok 2 rfl (go_nil nd (then_norm ?_))))))))))
  refine awp_cond (b := (n == 0)) rfl (fun c1 => ?_) (fun c1 => ?_)
  ·replace h := of_bif_t h c1
   refine awp_seq (awp_go hmix (go_run' ttok 1 rfl (go_nil nd (then_norm (awp_ret (then_ret ?_))))))
   have e2 := of_some h
   subst e2
   refine ret_ret ?_
   exact finB [(1305, some 1305)] ttok rfl rfl rfl rfl (wkP_refl _ rfl) ⟨⟨_, rfl, rfl, rfl, wkX_map (enc := I) known (fun _ => rfl)⟩, trivial⟩
  ·replace h := of_bif_f h c1
   refine awp_skip (then_norm (awp_seq (awp_seq (awp_go hmix (go_run' ttok 2 rfl ?_)))))
   refine go_lenT I sizes ttok rfl rfl rfl rfl rfl rfl ?_
   refine go_run' ttok 1 rfl (go_nil nd (then_norm ?_))
   refine awp_cond (b := (vfirst == ((sizes.length : Nat) : Int))) rfl (fun c3 => ?_) (fun c3 => ?_)
   ·replace h := of_bif_t h c3
    refine awp_seq (awp_go hmix (go_run' ttok 1 rfl (go_nil nd (then_norm (awp_ret (then_ret ?_))))))
    have e4 := of_some h
    subst e4
    refine ret_ret ?_
    exact finB [(1305, some 1305)] ttok rfl rfl rfl rfl (wkP_refl _ rfl) ⟨⟨_, rfl, rfl, rfl, wkX_map (enc := I) known (fun _ => rfl)⟩, trivial⟩
   ·replace h := of_bif_f h c3
    refine awp_skip (then_norm (awp_seq (awp_go hmix (go_run' ttok 2 rfl ?_))))
    refine go_lenT I sizes ttok rfl rfl rfl rfl rfl rfl ?_
    refine go_run' ttok 8 rfl (go_nil nd (then_norm (awp_seq (awp_seq (awp_go hmix (go_run' ttok 2 rfl ?_))))))
    obtain ⟨e, hv5, h⟩ := of_obind h
    refine go_indexAT I known (W64 ((W64 ((W64 ((W64 (n * ((sizes.length : Nat) : Int))) + vfirst)) * wide)) + room)) e hv5 (by first | rfl | (simp [setI]; done) | omega | (dsimp only; omega) | (simp [setI]; omega)) ttok rfl rfl rfl rfl rfl rfl rfl rfl rfl rfl ?_
    refine go_loadT I known (W64 ((W64 ((W64 ((W64 (n * ((sizes.length : Nat) : Int))) + vfirst)) * wide)) + room)) e _ hv5 ttok rfl rfl rfl rfl rfl rfl rfl ?_
    refine go_run' ttok 1 rfl (go_nil nd (then_norm ?_))
    refine awp_cond (b := (e != (-2))) rfl (fun c6 => ?_) (fun c6 => ?_)
    ·replace h := of_bif_t h c6
     refine awp_seq (awp_go hmix (go_run' ttok 2 rfl ?_))
     obtain ⟨e1, hv7, h⟩ := of_obind h
     refine go_indexAT I known (W64 ((W64 ((W64 ((W64 (n * ((sizes.length : Nat) : Int))) + vfirst)) * wide)) + room)) e1 hv7 (by first | rfl | (simp [setI]; done) | omega | (dsimp only; omega) | (simp [setI]; omega)) ttok rfl rfl rfl rfl rfl rfl rfl rfl rfl rfl ?_
     refine go_loadT I known (W64 ((W64 ((W64 ((W64 (n * ((sizes.length : Nat) : Int))) + vfirst)) * wide)) + room)) e1 _ hv7 ttok rfl rfl rfl rfl rfl rfl rfl ?_
     refine go_run' ttok 1 rfl (go_nil nd (then_norm (awp_ret (then_ret ?_))))
     have e8 := of_some h
     subst e8
     refine ret_ret ?_
     exact finB [(1305, some 1305)] ttok rfl rfl rfl rfl (wkP_refl _ rfl) ⟨⟨_, rfl, rfl, rfl, wkX_map (enc := I) known (fun _ => rfl)⟩, trivial⟩
    ·replace h := of_bif_f h c6
     refine awp_skip (then_norm (awp_seq (awp_go hmix (go_run' ttok 9 rfl ?_))))
     obtain ⟨bv, hv9, h⟩ := of_obind h
     obtain ⟨g10, h⟩ := of_grd h
     have hl11 : bv.2.length = known.length := Nat.eq_of_beq_eq_true g10
     refine go_callM (I bv.1) [] [(1305, some ⟨3, 1, bv.2.map I⟩)] [(1305, some 1305)] [(1305, some 1305)] fn37 (ih n (W64 (vfirst + 1)) room sizes prices known kerf wide bv hv9) rfl rfl rfl rfl rfl trivial ⟨(wkP_refl _ rfl), (wkP_refl _ rfl), (wkP_refl _ rfl), (wkP_refl _ rfl), (wkP_refl _ rfl), ⟨rfl, rfl, (by first | rfl | (simp [setI]; done) | omega | (dsimp only; omega) | (simp [setI]; omega))⟩, (wkP_refl _ rfl), (wkP_refl _ rfl), trivial⟩ rfl rfl ⟨⟨_, rfl, rfl, rfl, wkX_map (enc := I) known (fun _ => rfl)⟩, trivial⟩ rfl rfl ⟨⟨_, rfl, rfl, rfl, wkX_map (enc := I) bv.2 (fun _ => rfl)⟩, trivial⟩ (wkP_refl _ rfl) rfl (fun h => absurd rfl h) rfl rfl rfl ?_
     refine go_run' ttok 1 rfl (go_nil nd (then_norm (awp_seq (awp_seq (awp_go hmix (go_run' ttok 2 rfl ?_))))))
     obtain ⟨e2, hv12, h⟩ := of_obind h
     refine go_indexT I sizes vfirst e2 hv12 ttok rfl rfl rfl rfl rfl rfl rfl rfl rfl ?_
     refine go_run' ttok 5 rfl (go_nil nd (then_norm ?_))
     refine awp_cond (b := (decide ((W64 (e2 + kerf)) ≤ room))) rfl (fun c13 => ?_) (fun c13 => ?_)
     ·replace h := of_bif_t h c13
      refine awp_seq (awp_go hmix (go_run' ttok 6 rfl ?_))
      obtain ⟨e3, hv14, h⟩ := of_obind h
      refine go_indexT I sizes vfirst e3 hv14 ttok rfl rfl rfl rfl rfl rfl rfl rfl rfl ?_
      refine go_run' ttok 9 rfl ?_
      obtain ⟨bv1, hv15, h⟩ := of_obind h
      obtain ⟨g16, h⟩ := of_grd h
      have hl17 : bv1.2.length = bv.2.length := Nat.eq_of_beq_eq_true g16
      refine go_callM (I bv1.1) [] [(1305, some ⟨3, 1, bv1.2.map I⟩)] [(1305, some 1305)] [(1305, some 1305)] fn37 (ih (W64 (n - 1)) vfirst (W64 ((W64 (room - e3)) - kerf)) sizes prices bv.2 kerf wide bv1 hv15) rfl rfl rfl rfl rfl trivial ⟨(wkP_refl _ rfl), (wkP_refl _ rfl), (wkP_refl _ rfl), (wkP_refl _ rfl), (wkP_refl _ rfl), ⟨rfl, rfl, (by first | rfl | (simp [setI]; done) | omega | (dsimp only; omega) | (simp [setI]; omega))⟩, (wkP_refl _ rfl), (wkP_refl _ rfl), trivial⟩ rfl rfl ⟨⟨_, rfl, rfl, rfl, wkX_map (enc := I) bv.2 (fun _ => rfl)⟩, trivial⟩ rfl rfl ⟨⟨_, rfl, rfl, rfl, wkX_map (enc := I) bv1.2 (fun _ => rfl)⟩, trivial⟩ (wkP_refl _ rfl) rfl (fun h => absurd rfl h) rfl rfl rfl ?_
      refine go_run' ttok 1 rfl (go_nil nd (then_norm (awp_seq (awp_go hmix (go_run' ttok 2 rfl (go_nil nd (then_norm ?_)))))))
      refine awp_cond (b := (decide (0 ≤ bv1.1))) rfl (fun c18 => ?_) (fun c18 => ?_)
      ·replace h := of_bif_t h c18
       refine awp_go hmix (go_run' ttok 3 rfl ?_)
       obtain ⟨e4, hv19, h⟩ := of_obind h
       refine go_indexT I prices vfirst e4 hv19 ttok rfl rfl rfl rfl rfl rfl rfl rfl rfl ?_
       refine go_run' ttok 5 rfl (go_nil nd (then_norm (awp_seq (awp_go hmix (go_run' ttok 3 rfl ?_)))))
       obtain ⟨e5, hv20, h⟩ := of_obind h
       refine go_indexAT I bv1.2 (W64 ((W64 ((W64 ((W64 (n * ((sizes.length : Nat) : Int))) + vfirst)) * wide)) + room)) e5 hv20 (by first | rfl | (simp [setI]; done) | omega | (dsimp only; omega) | (simp [setI]; omega)) ttok rfl rfl rfl rfl rfl rfl rfl rfl rfl rfl ?_
       refine go_storeT I bv1.2 (W64 ((W64 ((W64 ((W64 (n * ((sizes.length : Nat) : Int))) + vfirst)) * wide)) + room)) e5 (max bv.1 (W64 (e4 + bv1.1))) hv20 ttok rfl rfl rfl rfl rfl rfl rfl rfl rfl rfl rfl rfl ?_
       refine go_nil nd (then_norm (awp_seq (awp_go hmix (go_run' ttok 2 rfl (go_nil nd (then_norm (awp_ret ?_)))))))
       have e21 := of_some h
       subst e21
       refine ret_ret ?_
       exact finB [(1305, some 1305)] ttok rfl rfl rfl rfl (wkP_refl _ rfl) ⟨⟨_, rfl, rfl, rfl, wkX_map (enc := I) (setI bv1.2 (W64 ((W64 ((W64 ((W64 (n * ((sizes.length : Nat) : Int))) + vfirst)) * wide)) + room)) (max bv.1 (W64 (e4 + bv1.1)))) (fun _ => rfl)⟩, trivial⟩
      ·replace h := of_bif_f h c18
       refine awp_skip (then_norm (awp_seq (awp_go hmix (go_run' ttok 3 rfl ?_))))
       obtain ⟨e6, hv22, h⟩ := of_obind h
       refine go_indexAT I bv1.2 (W64 ((W64 ((W64 ((W64 (n * ((sizes.length : Nat) : Int))) + vfirst)) * wide)) + room)) e6 hv22 (by first | rfl | (simp [setI]; done) | omega | (dsimp only; omega) | (simp [setI]; omega)) ttok rfl rfl rfl rfl rfl rfl rfl rfl rfl rfl ?_
       refine go_storeT I bv1.2 (W64 ((W64 ((W64 ((W64 (n * ((sizes.length : Nat) : Int))) + vfirst)) * wide)) + room)) e6 bv.1 hv22 ttok rfl rfl rfl rfl rfl rfl rfl rfl rfl rfl rfl rfl ?_
       refine go_nil nd (then_norm (awp_seq (awp_go hmix (go_run' ttok 2 rfl (go_nil nd (then_norm (awp_ret ?_)))))))
       have e23 := of_some h
       subst e23
       refine ret_ret ?_
       exact finB [(1305, some 1305)] ttok rfl rfl rfl rfl (wkP_refl _ rfl) ⟨⟨_, rfl, rfl, rfl, wkX_map (enc := I) (setI bv1.2 (W64 ((W64 ((W64 ((W64 (n * ((sizes.length : Nat) : Int))) + vfirst)) * wide)) + room)) bv.1) (fun _ => rfl)⟩, trivial⟩
     ·replace h := of_bif_f h c13
      refine awp_skip (then_norm (awp_seq (awp_go hmix (go_run' ttok 3 rfl ?_))))
      obtain ⟨e7, hv24, h⟩ := of_obind h
      refine go_indexAT I bv.2 (W64 ((W64 ((W64 ((W64 (n * ((sizes.length : Nat) : Int))) + vfirst)) * wide)) + room)) e7 hv24 (by first | rfl | (simp [setI]; done) | omega | (dsimp only; omega) | (simp [setI]; omega)) ttok rfl rfl rfl rfl rfl rfl rfl rfl rfl rfl ?_
      refine go_storeT I bv.2 (W64 ((W64 ((W64 ((W64 (n * ((sizes.length : Nat) : Int))) + vfirst)) * wide)) + room)) e7 bv.1 hv24 ttok rfl rfl rfl rfl rfl rfl rfl rfl rfl rfl rfl rfl ?_
      refine go_nil nd (then_norm (awp_seq (awp_go hmix (go_run' ttok 2 rfl (go_nil nd (then_norm (awp_ret ?_)))))))
      have e25 := of_some h
      subst e25
      refine ret_ret ?_
      exact finB [(1305, some 1305)] ttok rfl rfl rfl rfl (wkP_refl _ rfl) ⟨⟨_, rfl, rfl, rfl, wkX_map (enc := I) (setI bv.2 (W64 ((W64 ((W64 ((W64 (n * ((sizes.length : Nat) : Int))) + vfirst)) * wide)) + room)) bv.1) (fun _ => rfl)⟩, trivial⟩
theorem r27_best_w (n : Int) (vfirst : Int) (room : Int) (sizes : (List Int)) (prices : (List Int)) (known : (List Int)) (kerf : Int) (wide : Int) (r : (Int × (List Int))) (h : r27_best_g n vfirst room sizes prices known kerf wide = some r) : Holds Try.prog 37 [(I n), (I vfirst), (I room), ((encL I) sizes), ((encL I) prices), (.arr 1305 0 known.length), (I kerf), (I wide)] [(1305, some ⟨3, 1, known.map I⟩)] (I r.1) [(1305, some ⟨3, 1, r.2.map I⟩)] := by
 obtain ⟨N, hN⟩ := limO_some h
 exact r27_best_rw N n vfirst room sizes prices known kerf wide r hN
theorem r27_best_g_of {N : Nat} (n : Int) (vfirst : Int) (room : Int) (sizes : (List Int)) (prices : (List Int)) (known : (List Int)) (kerf : Int) (wide : Int) {r : (Int × (List Int))} (h : r27_best_r N n vfirst room sizes prices known kerf wide = some r) : r27_best_g n vfirst room sizes prices known kerf wide = some r := limO_of (fun N => r27_best_mono N n vfirst room sizes prices known kerf wide) h

end Go.Proofs.Ytcimnopodmnmmaa
