/- A1e: what functions of the program compute (written by mod.py). -/
import Derived.Test.YtpoehckffpbfiaaGreatXTA1d
import Derived.KernelRfl
namespace Go.Proofs.YtpoehckffpbfiaaGreat
open Go Go.Ab
set_option linter.unusedSimpArgs false
set_option linter.unusedVariables false
set_option linter.unusedSectionVars false
set_option maxRecDepth 20000
set_option maxHeartbeats 1000000
noncomputable def board_Same_g (a : TBoard) (b : TBoard) : Option Bool :=
 (bif (bEq a.Id b.Id) then (bif (bEq a.Log b.Log) then (bif (bEq a.Species b.Species) then (bif (a.Product == b.Product) then (bif (eqV encBx a.Box b.Box) then (bif (a.Volume == b.Volume) then (Option.bind (api_Defect__g a.Defects b.Defects) (fun dv => (bif dv then (bif (a.Wane == b.Wane) then (bif (eqV encTCell a.Cell b.Cell) then (bif (a.Dried == b.Dried) then some (a.Grade == b.Grade) else some false) else some false) else some false) else some false))) else some false) else some false) else some false) else some false) else some false) else some false)
theorem board_Same_w (a : TBoard) (b : TBoard) (r : Bool) (h : board_Same_g a b = some r) : Holds Tryz.prog 44 [(encTBoard a), (encTBoard b)] [] (B r) [] := by
 unfold board_Same_g at h
 refine holds_fn Tryz.func44 rfl Tryz.ntmps44 rfl rfl rfl (fun lim => ?_)
 refine awp_seq (awp_go hmix (go_run' ttok 3 rfl (go_nil nd (then_norm (awp_seq (awp_go hmix (go_run' ttok 4 rfl ?_)))))))
 refine go_eqlS a.Id b.Id rfl rfl rfl rfl rfl ?_
 refine go_run' ttok 1 rfl ?_
 refine go_gcase rfl rfl rfl (fun g1 => ?_) (fun g1 => ?_)
 ·rw [g1]
  replace h := of_bif_t h g1
  refine go_run' ttok 4 rfl ?_
  refine go_eqlS a.Log b.Log rfl rfl rfl rfl rfl ?_
  refine go_run' ttok 2 rfl ?_
  refine go_gcase rfl rfl rfl (fun g2 => ?_) (fun g2 => ?_)
  ·rw [g2]
   replace h := of_bif_t h g2
   refine go_run' ttok 4 rfl ?_
   refine go_eqlS a.Species b.Species rfl rfl rfl rfl rfl ?_
   refine go_run' ttok 2 rfl ?_
   refine go_gcase rfl rfl rfl (fun g3 => ?_) (fun g3 => ?_)
   ·rw [g3]
    replace h := of_bif_t h g3
    refine go_run' ttok 7 rfl ?_
    refine go_gcase rfl rfl rfl (fun g4 => ?_) (fun g4 => ?_)
    ·rw [g4]
     replace h := of_bif_t h g4
     refine go_run' ttok 4 rfl ?_
     refine go_step rfl (as_eqAgg shBx rfl eqT25_1 eqT25_2 (by decide) rfl rfl rfl rfl rfl) rfl rfl rfl ?_
     refine go_run' ttok 2 rfl ?_
     refine go_gcase rfl rfl rfl (fun g5 => ?_) (fun g5 => ?_)
     ·rw [g5]
      replace h := of_bif_t h g5
      refine go_run' ttok 7 rfl ?_
      refine go_gcase rfl rfl rfl (fun g6 => ?_) (fun g6 => ?_)
      ·rw [g6]
       replace h := of_bif_t h g6
       refine go_run' ttok 4 rfl ?_
       obtain ⟨dv, hv7, h⟩ := of_obind h
       refine go_call fn91 (api_Defect__w a.Defects b.Defects dv hv7) rfl rfl rfl rfl rfl rfl rfl ?_
       refine go_run' ttok 2 rfl ?_
       refine go_gcase rfl rfl rfl (fun g8 => ?_) (fun g8 => ?_)
       ·rw [g8]
        replace h := of_bif_t h g8
        refine go_run' ttok 7 rfl ?_
        refine go_gcase rfl rfl rfl (fun g9 => ?_) (fun g9 => ?_)
        ·rw [g9]
         replace h := of_bif_t h g9
         refine go_run' ttok 4 rfl ?_
         refine go_step rfl (as_eqAgg shTCell rfl eqT28_1 eqT28_2 (by decide) rfl rfl rfl rfl rfl) rfl rfl rfl ?_
         refine go_run' ttok 2 rfl ?_
         refine go_gcase rfl rfl rfl (fun g10 => ?_) (fun g10 => ?_)
         ·rw [g10]
          replace h := of_bif_t h g10
          refine go_run' ttok 4 rfl ?_
          refine go_step rfl (as_eqBool rfl (ttok _ _ rfl) rfl rfl rfl) rfl rfl rfl ?_
          refine go_run' ttok 2 rfl ?_
          refine go_gcase rfl rfl rfl (fun g11 => ?_) (fun g11 => ?_)
          ·rw [g11]
           replace h := of_bif_t h g11
           refine go_run' ttok 7 rfl (go_nil nd (then_norm (awp_ret ?_)))
           have e12 := of_some h
           subst e12
           refine ret_ret ?_
           refine fin0 ttok rfl rfl ?_
           exact (wkP_refl _ rfl)
          ·rw [g11]
           replace h := of_bif_f h g11
           refine go_run' ttok 7 rfl (go_nil nd (then_norm (awp_ret ?_)))
           have e13 := of_some h
           subst e13
           refine ret_ret ?_
           refine fin0 ttok rfl rfl ?_
           exact (wkP_refl _ rfl)
         ·rw [g10]
          replace h := of_bif_f h g10
          refine go_run' ttok 14 rfl (go_nil nd (then_norm (awp_ret ?_)))
          have e14 := of_some h
          subst e14
          refine ret_ret ?_
          refine fin0 ttok rfl rfl ?_
          exact (wkP_refl _ rfl)
        ·rw [g9]
         replace h := of_bif_f h g9
         refine go_run' ttok 21 rfl (go_nil nd (then_norm (awp_ret ?_)))
         have e15 := of_some h
         subst e15
         refine ret_ret ?_
         refine fin0 ttok rfl rfl ?_
         exact (wkP_refl _ rfl)
       ·rw [g8]
        replace h := of_bif_f h g8
        refine go_run' ttok 28 rfl (go_nil nd (then_norm (awp_ret ?_)))
        have e16 := of_some h
        subst e16
        refine ret_ret ?_
        refine fin0 ttok rfl rfl ?_
        exact (wkP_refl _ rfl)
      ·rw [g6]
       replace h := of_bif_f h g6
       refine go_run' ttok 35 rfl (go_nil nd (then_norm (awp_ret ?_)))
       have e17 := of_some h
       subst e17
       refine ret_ret ?_
       refine fin0 ttok rfl rfl ?_
       exact (wkP_refl _ rfl)
     ·rw [g5]
      replace h := of_bif_f h g5
      refine go_run' ttok 42 rfl (go_nil nd (then_norm (awp_ret ?_)))
      have e18 := of_some h
      subst e18
      refine ret_ret ?_
      refine fin0 ttok rfl rfl ?_
      exact (wkP_refl _ rfl)
    ·rw [g4]
     replace h := of_bif_f h g4
     refine go_run' ttok 49 rfl (go_nil nd (then_norm (awp_ret ?_)))
     have e19 := of_some h
     subst e19
     refine ret_ret ?_
     refine fin0 ttok rfl rfl ?_
     exact (wkP_refl _ rfl)
   ·rw [g3]
    replace h := of_bif_f h g3
    refine go_run' ttok 56 rfl (go_nil nd (then_norm (awp_ret ?_)))
    have e20 := of_some h
    subst e20
    refine ret_ret ?_
    refine fin0 ttok rfl rfl ?_
    exact (wkP_refl _ rfl)
  ·rw [g2]
   replace h := of_bif_f h g2
   refine go_run' ttok 63 rfl (go_nil nd (then_norm (awp_ret ?_)))
   have e21 := of_some h
   subst e21
   refine ret_ret ?_
   refine fin0 ttok rfl rfl ?_
   exact (wkP_refl _ rfl)
 ·rw [g1]
  replace h := of_bif_f h g1
  refine go_run' ttok 70 rfl (go_nil nd (then_norm (awp_ret ?_)))
  have e22 := of_some h
  subst e22
  refine ret_ret ?_
  refine fin0 ttok rfl rfl ?_
  exact (wkP_refl _ rfl)
noncomputable def board_Same_c (N : Nat) (a : TBoard) (b : TBoard) : Option Bool :=
 (bif (bEq a.Id b.Id) then (bif (bEq a.Log b.Log) then (bif (bEq a.Species b.Species) then (bif (a.Product == b.Product) then (bif (eqV encBx a.Box b.Box) then (bif (a.Volume == b.Volume) then (Option.bind ((api_Defect__c N) a.Defects b.Defects) (fun dv => (bif dv then (bif (a.Wane == b.Wane) then (bif (eqV encTCell a.Cell b.Cell) then (bif (a.Dried == b.Dried) then some (a.Grade == b.Grade) else some false) else some false) else some false) else some false))) else some false) else some false) else some false) else some false) else some false) else some false)
theorem board_Same_le (N : Nat) (a : TBoard) (b : TBoard) : OLe (board_Same_c N a b) (board_Same_g a b) := by
 unfold board_Same_c board_Same_g
 repeat' (first | exact ole_rfl | exact api_Defect__le _ _ _ | refine ole_bif ?_ ?_ | refine ole_bind ?_ (fun _ => ?_) | refine ole_let (fun _ => ?_) | refine ole_map ?_ | refine ole_elim (fun _ => ?_) (fun _ => ?_) | refine ole_loop (fun _ => ?_))
noncomputable def board_Length_g (b : TBoard) : Int :=
 (bif (!(board_isAlong_g b.Box.z)) then 0 else (board_length_g b.Box.z))
theorem board_Length_w (b : TBoard) (r : Int) (h : board_Length_g b = r) : Holds Tryz.prog 45 [(encTBoard b)] [] (I r) [] := by
 unfold board_Length_g at h
 refine holds_fn Tryz.func45 rfl Tryz.ntmps45 rfl rfl rfl (fun lim => ?_)
 refine awp_seq (awp_go hmix (go_run' ttok 2 rfl (go_nil nd (then_norm (awp_seq (awp_seq (awp_go hmix (go_run' ttok 3 rfl ?_))))))))
 refine go_call fn79 (board_isAlong_w b.Box.z _ rfl) rfl rfl rfl rfl rfl rfl rfl ?_
 refine go_run' ttok 1 rfl (go_nil nd (then_norm ?_))
 refine awp_cond (b := (!(board_isAlong_g b.Box.z))) rfl (fun c1 => ?_) (fun c1 => ?_)
 ·replace h := of_bif_t h c1
  refine awp_seq (awp_go hmix (go_run' ttok 1 rfl (go_nil nd (then_norm (awp_ret (then_ret ?_))))))
  have e2 := h
  subst e2
  refine ret_ret ?_
  refine fin0 ttok rfl rfl ?_
  exact (wkP_refl _ rfl)
 ·replace h := of_bif_f h c1
  refine awp_skip (then_norm (awp_seq (awp_go hmix (go_run' ttok 3 rfl ?_))))
  refine go_call fn27 (board_length_w b.Box.z _ rfl) rfl rfl rfl rfl rfl rfl rfl ?_
  refine go_run' ttok 1 rfl (go_nil nd (then_norm (awp_ret ?_)))
  have e3 := h
  subst e3
  refine ret_ret ?_
  refine fin0 ttok rfl rfl ?_
  exact (wkP_refl _ rfl)
noncomputable def r13_Same_s1 (a : (List Df)) (b : (List Df)) (i : Int) : Option (Int ⊕ (Bool ⊕ Unit)) :=
 (bif (decide (i < ((a.length : Nat) : Int))) then (Option.bind (getI a i) (fun e => (Option.bind (getI b i) (fun e1 => (bif (!(eqV encDf e e1)) then some (Sum.inr (Sum.inl false)) else some (Sum.inl (W64 (i + 1)))))))) else some (Sum.inr (Sum.inr ())))
noncomputable def r13_Same_g (a : (List Df)) (b : (List Df)) : Option Bool :=
 (bif (((a.length : Nat) : Int) != ((b.length : Nat) : Int)) then some false else (Option.bind ((loopO (fun q => r13_Same_s1 a b q) 0) : Option (Bool ⊕ Unit)) (Sum.elim (fun q => some q) (fun _ => some true))))
theorem r13_Same_w (a : (List Df)) (b : (List Df)) (r : Bool) (h : r13_Same_g a b = some r) : Holds Tryz.prog 92 [((encL encDf) a), ((encL encDf) b)] [] (B r) [] := by
 unfold r13_Same_g at h
 refine holds_fn Tryz.func92 rfl Tryz.ntmps92 rfl rfl rfl (fun lim => ?_)
 refine awp_seq (awp_go hmix (go_run' ttok 1 rfl (go_nil nd (then_norm (awp_seq (awp_seq (awp_go hmix (go_run' ttok 1 rfl ?_))))))))
 refine go_lenT encDf a ttok rfl rfl rfl rfl rfl rfl ?_
 refine go_run' ttok 1 rfl ?_
 refine go_lenT encDf b ttok rfl rfl rfl rfl rfl rfl ?_
 refine go_run' ttok 1 rfl (go_nil nd (then_norm ?_))
 refine awp_cond (b := (((a.length : Nat) : Int) != ((b.length : Nat) : Int))) rfl (fun c1 => ?_) (fun c1 => ?_)
 ·replace h := of_bif_t h c1
  refine awp_seq (awp_go hmix (go_run' ttok 1 rfl (go_nil nd (then_norm (awp_ret (then_ret ?_))))))
  have e2 := of_some h
  subst e2
  refine ret_ret ?_
  refine fin0 ttok rfl rfl ?_
  exact (wkP_refl _ rfl)
 ·replace h := of_bif_f h c1
  refine awp_skip (then_norm ?_)
  obtain ⟨y, hx3, h⟩ := of_obind h
  refine awp_seqJ (X := Unit) [] [] (fun _ => []) (fun _ => []) (fun w => Sum.inr w = y) rfl rfl ?_ ?_
  ·skip
   refine awp_seq (awp_go hmix (go_run' ttok 1 rfl (go_nil nd (then_norm (awp_block ?_)))))
   refine awp_loopD (X := Int) (Y := (Bool ⊕ Unit)) [0, 1] [] (fun q => [(5, (I q))]) (fun q => []) (fun q => r13_Same_s1 a b q) 0 [] hx3 ⟨rfl, rfl, rfl, rfl, rfl, ⟨wkP_id _ rfl, trivial⟩, trivial⟩ (fun i vR vz hz5 hk6 => ?_)
   change r13_Same_s1 a b i = _ at hz5
   unfold r13_Same_s1 at hz5
   refine awp_seq (awp_seq (awp_go hmix (go_run' ttok 2 rfl ?_)))
   refine go_lenT encDf a ttok rfl rfl rfl rfl rfl rfl ?_
   refine go_run' ttok 1 rfl (go_nil nd (then_norm ?_))
   refine awp_cond (b := (decide (i < ((a.length : Nat) : Int)))) rfl (fun c7 => ?_) (fun c7 => ?_)
   ·replace hz5 := of_bif_t hz5 c7
    refine awp_skip (then_norm (awp_seq (awp_block (awp_seq (awp_go hmix (go_run' ttok 2 rfl ?_))))))
    obtain ⟨e, hv8, hz5⟩ := of_obind hz5
    refine go_indexT encDf a i e hv8 ttok rfl rfl rfl rfl rfl rfl rfl rfl rfl ?_
    refine go_run' ttok 3 rfl ?_
    obtain ⟨e1, hv9, hz5⟩ := of_obind hz5
    refine go_indexT encDf b i e1 hv9 ttok rfl rfl rfl rfl rfl rfl rfl rfl rfl ?_
    refine go_run' ttok 1 rfl ?_
    refine go_step rfl (as_neAgg shDf rfl eqT71_1 eqT71_2 (by decide) rfl rfl rfl rfl rfl) rfl rfl rfl ?_
    refine go_nil (fun _ => by kernel_rfl) ?_
    refine then_norm ?_
    refine awp_cond (b := (!(eqV encDf e e1))) rfl (fun c10 => ?_) (fun c10 => ?_)
    ·replace hz5 := of_bif_t hz5 c10
     refine awp_seq (awp_go hmix (go_run' ttok 1 rfl (go_nil nd (then_norm (awp_ret (block_ret (then_ret ?_)))))))
     obtain ⟨t, hn11, hq⟩ := of_mapr' hz5
     subst hq
     have hq : t = _ := hk6
     subst hq
     refine then_ret (block_ret ?_)
     obtain ⟨t1, hn12, hq⟩ := of_mapl' hn11
     subst hq
     have hq := of_inl h
     replace hq := of_some hq
     subst hq
     refine then_ret ?_
     have e13 := of_some hn12
     subst e13
     refine ret_ret ?_
     refine fin0 ttok rfl rfl ?_
     exact (wkP_refl _ rfl)
    ·replace hz5 := of_bif_f hz5 c10
     refine awp_skip (block_norm (then_norm (awp_go hmix (go_run' ttok 3 rfl (go_nil nd ?_)))))
     have e14 := of_some hz5
     subst e14
     refine then_norm ⟨rfl, (W64 (i + 1)), [], ⟨rfl, rfl, rfl, rfl, rfl, ⟨wkP_id _ rfl, trivial⟩, trivial⟩, hk6⟩
   ·replace hz5 := of_bif_f hz5 c7
    refine awp_exit (then_exit ?_)
    obtain ⟨t2, hn15, hq⟩ := of_mapr' hz5
    subst hq
    have hq : t2 = _ := hk6
    subst hq
    refine then_exit (block_here ?_)
    have e16 := of_some hn15
    refine then_norm ⟨rfl, (), [], ⟨rfl, rfl, rfl, rfl, rfl, trivial, trivial⟩, e16⟩
  ·intro w hw4
   subst hw4
   replace h := of_inr h
   refine awp_seq (awp_go hmix (go_run' ttok 1 rfl (go_nil nd (then_norm (awp_ret ?_)))))
   have e17 := of_some h
   subst e17
   refine ret_ret ?_
   refine fin0 ttok rfl rfl ?_
   exact (wkP_refl _ rfl)
noncomputable def r26_SameBoard_g (a : TBoard) (b : TBoard) : Option Bool :=
 (bif (bEq a.Id b.Id) then (bif (bEq a.Log b.Log) then (bif (bEq a.Species b.Species) then (bif (a.Product == b.Product) then (bif (eqV encBx a.Box b.Box) then (bif (a.Volume == b.Volume) then (Option.bind (r13_Same_g a.Defects b.Defects) (fun sv => (bif sv then (bif (a.Wane == b.Wane) then (bif (eqV encTCell a.Cell b.Cell) then (bif (a.Dried == b.Dried) then some (a.Grade == b.Grade) else some false) else some false) else some false) else some false))) else some false) else some false) else some false) else some false) else some false) else some false)
theorem r26_SameBoard_w (a : TBoard) (b : TBoard) (r : Bool) (h : r26_SameBoard_g a b = some r) : Holds Tryz.prog 46 [(encTBoard a), (encTBoard b)] [] (B r) [] := by
 unfold r26_SameBoard_g at h
 refine holds_fn Tryz.func46 rfl Tryz.ntmps46 rfl rfl rfl (fun lim => ?_)
 refine awp_seq (awp_go hmix (go_run' ttok 3 rfl (go_nil nd (then_norm (awp_seq (awp_go hmix (go_run' ttok 4 rfl ?_)))))))
 refine go_eqlS a.Id b.Id rfl rfl rfl rfl rfl ?_
 refine go_run' ttok 1 rfl ?_
 refine go_gcase rfl rfl rfl (fun g1 => ?_) (fun g1 => ?_)
 ·rw [g1]
  replace h := of_bif_t h g1
  refine go_run' ttok 4 rfl ?_
  refine go_eqlS a.Log b.Log rfl rfl rfl rfl rfl ?_
  refine go_run' ttok 2 rfl ?_
  refine go_gcase rfl rfl rfl (fun g2 => ?_) (fun g2 => ?_)
  ·rw [g2]
   replace h := of_bif_t h g2
   refine go_run' ttok 4 rfl ?_
   refine go_eqlS a.Species b.Species rfl rfl rfl rfl rfl ?_
   refine go_run' ttok 2 rfl ?_
   refine go_gcase rfl rfl rfl (fun g3 => ?_) (fun g3 => ?_)
   ·rw [g3]
    replace h := of_bif_t h g3
    refine go_run' ttok 7 rfl ?_
    refine go_gcase rfl rfl rfl (fun g4 => ?_) (fun g4 => ?_)
    ·rw [g4]
     replace h := of_bif_t h g4
     refine go_run' ttok 4 rfl ?_
     refine go_step rfl (as_eqAgg shBx rfl eqT25_1 eqT25_2 (by decide) rfl rfl rfl rfl rfl) rfl rfl rfl ?_
     refine go_run' ttok 2 rfl ?_
     refine go_gcase rfl rfl rfl (fun g5 => ?_) (fun g5 => ?_)
     ·rw [g5]
      replace h := of_bif_t h g5
      refine go_run' ttok 7 rfl ?_
      refine go_gcase rfl rfl rfl (fun g6 => ?_) (fun g6 => ?_)
      ·rw [g6]
       replace h := of_bif_t h g6
       refine go_run' ttok 4 rfl ?_
       obtain ⟨sv, hv7, h⟩ := of_obind h
       refine go_call fn92 (r13_Same_w a.Defects b.Defects sv hv7) rfl rfl rfl rfl rfl rfl rfl ?_
       refine go_run' ttok 2 rfl ?_
       refine go_gcase rfl rfl rfl (fun g8 => ?_) (fun g8 => ?_)
       ·rw [g8]
        replace h := of_bif_t h g8
        refine go_run' ttok 7 rfl ?_
        refine go_gcase rfl rfl rfl (fun g9 => ?_) (fun g9 => ?_)
        ·rw [g9]
         replace h := of_bif_t h g9
         refine go_run' ttok 4 rfl ?_
         refine go_step rfl (as_eqAgg shTCell rfl eqT28_1 eqT28_2 (by decide) rfl rfl rfl rfl rfl) rfl rfl rfl ?_
         refine go_run' ttok 2 rfl ?_
         refine go_gcase rfl rfl rfl (fun g10 => ?_) (fun g10 => ?_)
         ·rw [g10]
          replace h := of_bif_t h g10
          refine go_run' ttok 4 rfl ?_
          refine go_step rfl (as_eqBool rfl (ttok _ _ rfl) rfl rfl rfl) rfl rfl rfl ?_
          refine go_run' ttok 2 rfl ?_
          refine go_gcase rfl rfl rfl (fun g11 => ?_) (fun g11 => ?_)
          ·rw [g11]
           replace h := of_bif_t h g11
           refine go_run' ttok 7 rfl (go_nil nd (then_norm (awp_ret ?_)))
           have e12 := of_some h
           subst e12
           refine ret_ret ?_
           refine fin0 ttok rfl rfl ?_
           exact (wkP_refl _ rfl)
          ·rw [g11]
           replace h := of_bif_f h g11
           refine go_run' ttok 7 rfl (go_nil nd (then_norm (awp_ret ?_)))
           have e13 := of_some h
           subst e13
           refine ret_ret ?_
           refine fin0 ttok rfl rfl ?_
           exact (wkP_refl _ rfl)
         ·rw [g10]
          replace h := of_bif_f h g10
          refine go_run' ttok 14 rfl (go_nil nd (then_norm (awp_ret ?_)))
          have e14 := of_some h
          subst e14
          refine ret_ret ?_
          refine fin0 ttok rfl rfl ?_
          exact (wkP_refl _ rfl)
        ·rw [g9]
         replace h := of_bif_f h g9
         refine go_run' ttok 21 rfl (go_nil nd (then_norm (awp_ret ?_)))
         have e15 := of_some h
         subst e15
         refine ret_ret ?_
         refine fin0 ttok rfl rfl ?_
         exact (wkP_refl _ rfl)
       ·rw [g8]
        replace h := of_bif_f h g8
        refine go_run' ttok 28 rfl (go_nil nd (then_norm (awp_ret ?_)))
        have e16 := of_some h
        subst e16
        refine ret_ret ?_
        refine fin0 ttok rfl rfl ?_
        exact (wkP_refl _ rfl)
      ·rw [g6]
       replace h := of_bif_f h g6
       refine go_run' ttok 35 rfl (go_nil nd (then_norm (awp_ret ?_)))
       have e17 := of_some h
       subst e17
       refine ret_ret ?_
       refine fin0 ttok rfl rfl ?_
       exact (wkP_refl _ rfl)
     ·rw [g5]
      replace h := of_bif_f h g5
      refine go_run' ttok 42 rfl (go_nil nd (then_norm (awp_ret ?_)))
      have e18 := of_some h
      subst e18
      refine ret_ret ?_
      refine fin0 ttok rfl rfl ?_
      exact (wkP_refl _ rfl)
    ·rw [g4]
     replace h := of_bif_f h g4
     refine go_run' ttok 49 rfl (go_nil nd (then_norm (awp_ret ?_)))
     have e19 := of_some h
     subst e19
     refine ret_ret ?_
     refine fin0 ttok rfl rfl ?_
     exact (wkP_refl _ rfl)
   ·rw [g3]
    replace h := of_bif_f h g3
    refine go_run' ttok 56 rfl (go_nil nd (then_norm (awp_ret ?_)))
    have e20 := of_some h
    subst e20
    refine ret_ret ?_
    refine fin0 ttok rfl rfl ?_
    exact (wkP_refl _ rfl)
  ·rw [g2]
   replace h := of_bif_f h g2
   refine go_run' ttok 63 rfl (go_nil nd (then_norm (awp_ret ?_)))
   have e21 := of_some h
   subst e21
   refine ret_ret ?_
   refine fin0 ttok rfl rfl ?_
   exact (wkP_refl _ rfl)
 ·rw [g1]
  replace h := of_bif_f h g1
  refine go_run' ttok 70 rfl (go_nil nd (then_norm (awp_ret ?_)))
  have e22 := of_some h
  subst e22
  refine ret_ret ?_
  refine fin0 ttok rfl rfl ?_
  exact (wkP_refl _ rfl)
noncomputable def r30_Same_g (a : TBoard) (b : TBoard) : Option Bool :=
 (Option.bind (r26_SameBoard_g a b) (fun sv => some sv))
theorem r30_Same_w (a : TBoard) (b : TBoard) (r : Bool) (h : r30_Same_g a b = some r) : Holds Tryz.prog 13 [(encTBoard a), (encTBoard b)] [] (B r) [] := by
 unfold r30_Same_g at h
 refine holds_fn Tryz.func13 rfl Tryz.ntmps13 rfl rfl rfl (fun lim => ?_)
 refine awp_seq (awp_go hmix (go_run' ttok 3 rfl (go_nil nd (then_norm (awp_seq (awp_go hmix (go_run' ttok 2 rfl ?_)))))))
 obtain ⟨sv, hv1, h⟩ := of_obind h
 refine go_call fn46 (r26_SameBoard_w a b sv hv1) rfl rfl rfl rfl rfl rfl rfl ?_
 refine go_run' ttok 1 rfl (go_nil nd (then_norm (awp_ret ?_)))
 have e2 := of_some h
 subst e2
 refine ret_ret ?_
 refine fin0 ttok rfl rfl ?_
 exact (wkP_refl _ rfl)
noncomputable def r30_numbers_g (b : TBoard) : (List Int) :=
 (letB ((bif b.Dried then 1 else 0) : Int) (fun dried => [b.Product, b.Box.x.a, b.Box.x.b, b.Box.y.a, b.Box.y.b, b.Box.z.a, b.Box.z.b, b.Volume, b.Wane, b.Cell.Surf, b.Cell.Core, b.Cell.Stress, dried, b.Grade]))
theorem r30_numbers_w (b : TBoard) (r : (List Int)) (h : r30_numbers_g b = r) : Holds Tryz.prog 55 [(encTBoard b)] [] ((encL I) r) [] := by
 unfold r30_numbers_g at h
 refine holds_fn Tryz.func55 rfl Tryz.ntmps55 rfl rfl rfl (fun lim => ?_)
 refine awp_seq (awp_go hmix (go_run' ttok 2 rfl (go_nil nd (then_norm (awp_seq (awp_go hmix (go_run' ttok 1 rfl (go_nil nd (then_norm ?_)))))))))
 obtain ⟨y, hx1, h⟩ := of_let h
 refine awp_seqJ (X := Int) [1] [1] (fun w => [(3, (I w))]) (fun w => []) (fun w => w = y) rfl rfl ?_ ?_
 ·skip
  refine awp_seq (awp_go hmix (go_run' ttok 2 rfl (go_nil nd (then_norm ?_))))
  refine awp_cond (b := b.Dried) rfl (fun c3 => ?_) (fun c3 => ?_)
  ·replace hx1 := of_bif_t hx1 c3
   refine awp_go hmix (go_run' ttok 1 rfl (go_nil nd ?_))
   have e4 := hx1
   refine then_norm ⟨rfl, 1, [(1, some 1)], ⟨rfl, rfl, rfl, rfl, rfl, ⟨wkP_id _ rfl, trivial⟩, trivial⟩, e4⟩
  ·replace hx1 := of_bif_f hx1 c3
   refine awp_skip ?_
   have e5 := hx1
   refine then_norm ⟨rfl, 0, [(1, some 1)], ⟨rfl, rfl, rfl, rfl, rfl, ⟨wkP_id _ rfl, trivial⟩, trivial⟩, e5⟩
 ·intro dried hw2
  subst hw2
  refine awp_seq (awp_go hmix (go_run' ttok 44 rfl (go_nil nd (then_norm ?_))))
  refine awp_freezeM [] [] [(48, some ⟨3, 1, ([b.Product, b.Box.x.a, b.Box.x.b, b.Box.y.a, b.Box.y.b, b.Box.z.a, b.Box.z.b, b.Volume, b.Wane, b.Cell.Surf, b.Cell.Core, b.Cell.Stress, dried, b.Grade]).map I⟩)] [] [(2, (encL I ([b.Product, b.Box.x.a, b.Box.x.b, b.Box.y.a, b.Box.y.b, b.Box.z.a, b.Box.z.b, b.Volume, b.Wane, b.Cell.Surf, b.Cell.Core, b.Cell.Stress, dried, b.Grade])))] [] rfl rfl rfl rfl rfl ⟨rfl, by decide, trivial⟩ ⟨(wkP_lend rfl (by first | rfl | (simp [setI]; done) | omega | (dsimp only; omega) | (simp [setI]; omega)) (fun _ => rfl)), trivial⟩ trivial ?_
  refine awp_ret ?_
  have e6 := h
  subst e6
  refine ret_ret ?_
  refine fin0 ttok rfl rfl ?_
  exact (wkP_refl _ rfl)
noncomputable def r30_marks_s1 (l : (List Df)) (out1 : (List Int)) (i : Int) : Option (((List Int) × Int) ⊕ (List Int)) :=
 (bif (decide (i < ((l.length : Nat) : Int))) then (Option.bind (getI l i) (fun e => (Option.bind (getI l i) (fun e1 => (Option.bind (appO 8 out1 ([e1.k, e.b.x.a, e.b.x.b, e.b.y.a, e.b.y.b, e.b.z.a, e.b.z.b])) (fun l1 => some (Sum.inl (l1, (W64 (i + 1)))))))))) else some (Sum.inr out1))
noncomputable def r30_marks_g (l : (List Df)) : Option (List Int) :=
 (Option.bind ((loopO (fun q => r30_marks_s1 l q.1 q.2) ([], 0)) : Option (List Int)) (fun out => some out))
theorem r30_marks_w (l : (List Df)) (r : (List Int)) (h : r30_marks_g l = some r) : Holds Tryz.prog 56 [((encL encDf) l)] [] ((encL I) r) [] := by
 unfold r30_marks_g at h
 refine holds_fn Tryz.func56 rfl Tryz.ntmps56 rfl rfl rfl (fun lim => ?_)
 refine awp_seq (awp_go hmix (go_run' ttok 1 rfl (go_nil nd (then_norm (awp_seq (awp_go hmix (go_run' ttok 1 rfl (go_nil nd (then_norm ?_)))))))))
 obtain ⟨y, hx1, h⟩ := of_obind h
 refine awp_seqJ (X := (List Int)) [] [] (fun w => [(3, (.arr 3 0 w.length))]) (fun w => [(3, some ⟨3, 1, w.map I⟩)]) (fun w => w = y) rfl rfl ?_ ?_
 ·skip
  refine awp_seq (awp_go hmix (go_run' ttok 1 rfl (go_nil nd (then_norm (awp_block ?_)))))
  refine awp_loopD (X := ((List Int) × Int)) (Y := (List Int)) [0] [] (fun q => [(3, (.arr 3 0 q.1.length)), (4, (I q.2))]) (fun q => [(3, some ⟨3, 1, q.1.map I⟩)]) (fun q => r30_marks_s1 l q.1 q.2) ([], 0) [(3, none)] hx1 ⟨rfl, rfl, rfl, rfl, rfl, ⟨⟨rfl, rfl, (by first | rfl | (simp [setI]; done) | omega | (dsimp only; omega) | (simp [setI]; omega))⟩, wkP_id _ rfl, trivial⟩, ⟨rfl, trivial⟩⟩ (fun x vR vz hz3 hk4 => ?_)
  obtain ⟨out1, i⟩ := x
  change r30_marks_s1 l out1 i = _ at hz3
  unfold r30_marks_s1 at hz3
  refine awp_seq (awp_seq (awp_go hmix (go_run' ttok 2 rfl ?_)))
  refine go_lenT encDf l ttok rfl rfl rfl rfl rfl rfl ?_
  refine go_run' ttok 1 rfl (go_nil nd (then_norm ?_))
  refine awp_cond (b := (decide (i < ((l.length : Nat) : Int)))) rfl (fun c5 => ?_) (fun c5 => ?_)
  ·replace hz3 := of_bif_t hz3 c5
   refine awp_skip (then_norm (awp_seq (awp_block (awp_seq (awp_go hmix (go_run' ttok 2 rfl ?_))))))
   obtain ⟨e, hv6, hz3⟩ := of_obind hz3
   refine go_indexT encDf l i e hv6 ttok rfl rfl rfl rfl rfl rfl rfl rfl rfl ?_
   refine go_run' ttok 4 rfl (go_nil nd (then_norm (awp_go hmix (go_run' ttok 3 rfl ?_))))
   obtain ⟨e1, hv7, hz3⟩ := of_obind hz3
   refine go_indexT encDf l i e1 hv7 ttok rfl rfl rfl rfl rfl rfl rfl rfl rfl ?_
   refine go_run' ttok 21 rfl ?_
   obtain ⟨l1, hv8, hz3⟩ := of_obind hz3
   refine go_appT I out1 ([e1.k, e.b.x.a, e.b.x.b, e.b.y.a, e.b.y.b, e.b.z.a, e.b.z.b]) l1 hv8 (fun _ => rfl) (by first | rfl | (simp [setI]; done) | omega | (dsimp only; omega) | (simp [setI]; omega)) (by first | rfl | (simp [setI]; done) | omega | (dsimp only; omega) | (simp [setI]; omega)) ttok rfl rfl rfl rfl rfl rfl rfl rfl rfl rfl rfl rfl rfl rfl rfl rfl rfl ?_
   refine go_run' ttok 1 rfl ?_
   refine go_nil (fun _ => by kernel_rfl) ?_
   refine block_norm (then_norm (awp_go hmix (go_run' ttok 3 rfl (go_nil nd ?_))))
   have e9 := of_some hz3
   subst e9
   refine then_norm ⟨rfl, (l1, (W64 (i + 1))), [(3, some 42)], ⟨rfl, rfl, rfl, rfl, rfl, ⟨⟨rfl, rfl, (by first | rfl | (simp [setI]; done) | omega | (dsimp only; omega) | (simp [setI]; omega))⟩, wkP_id _ rfl, trivial⟩, ⟨⟨_, rfl, rfl, rfl, wkX_map (enc := I) l1 (fun _ => rfl)⟩, trivial⟩⟩, hk4⟩
  ·replace hz3 := of_bif_f hz3 c5
   refine awp_exit (then_exit ?_)
   obtain ⟨t, hn10, hq⟩ := of_mapr' hz3
   subst hq
   have hq : t = _ := hk4
   subst hq
   refine then_exit (block_here ?_)
   have e11 := of_some hn10
   refine then_norm ⟨rfl, out1, [(3, some 3)], ⟨rfl, rfl, rfl, rfl, rfl, ⟨⟨rfl, rfl, (by first | rfl | (simp [setI]; done) | omega | (dsimp only; omega) | (simp [setI]; omega))⟩, trivial⟩, ⟨⟨_, rfl, rfl, rfl, wkX_map (enc := I) out1 (fun _ => rfl)⟩, trivial⟩⟩, e11⟩
 ·intro out hw2
  subst hw2
  refine awp_seq (awp_go hmix (go_run' ttok 2 rfl (go_nil nd (then_norm ?_))))
  refine awp_freezeM [] [] [(3, some ⟨3, 1, out.map I⟩)] [] [(2, (encL I out))] [] rfl rfl rfl rfl rfl ⟨rfl, by decide, trivial⟩ ⟨(wkP_lend rfl (by first | rfl | (simp [setI]; done) | omega | (dsimp only; omega) | (simp [setI]; omega)) (fun _ => rfl)), trivial⟩ trivial ?_
  refine awp_ret ?_
  have e12 := of_some h
  subst e12
  refine ret_ret ?_
  refine fin0 ttok rfl rfl ?_
  exact (wkP_refl _ rfl)
noncomputable def r30_ranged_s1 (l : (List Int)) (i : Int) : Option (Int ⊕ (Bool ⊕ Unit)) :=
 (bif (decide (i < ((l.length : Nat) : Int))) then (Option.bind (getI l i) (fun e => (bif (decide (e < (-1099511627776))) then some (Sum.inr (Sum.inl false)) else (Option.bind (getI l i) (fun e1 => (bif (decide (1099511627776 < e1)) then some (Sum.inr (Sum.inl false)) else some (Sum.inl (W64 (i + 1))))))))) else some (Sum.inr (Sum.inr ())))
noncomputable def r30_ranged_g (l : (List Int)) : Option Bool :=
 (Option.bind ((loopO (fun q => r30_ranged_s1 l q) 0) : Option (Bool ⊕ Unit)) (Sum.elim (fun q => some q) (fun _ => some true)))
theorem r30_ranged_w (l : (List Int)) (r : Bool) (h : r30_ranged_g l = some r) : Holds Tryz.prog 57 [((encL I) l)] [] (B r) [] := by
 unfold r30_ranged_g at h
 refine holds_fn Tryz.func57 rfl Tryz.ntmps57 rfl rfl rfl (fun lim => ?_)
 refine awp_seq (awp_go hmix (go_run' ttok 1 rfl (go_nil nd (then_norm ?_))))
 obtain ⟨y, hx1, h⟩ := of_obind h
 refine awp_seqJ (X := Unit) [] [] (fun _ => []) (fun _ => []) (fun w => Sum.inr w = y) rfl rfl ?_ ?_
 ·skip
  refine awp_seq (awp_go hmix (go_run' ttok 1 rfl (go_nil nd (then_norm (awp_block ?_)))))
  refine awp_loopD (X := Int) (Y := (Bool ⊕ Unit)) [0] [] (fun q => [(3, (I q))]) (fun q => []) (fun q => r30_ranged_s1 l q) 0 [] hx1 ⟨rfl, rfl, rfl, rfl, rfl, ⟨wkP_id _ rfl, trivial⟩, trivial⟩ (fun i vR vz hz3 hk4 => ?_)
  change r30_ranged_s1 l i = _ at hz3
  unfold r30_ranged_s1 at hz3
  refine awp_seq (awp_seq (awp_go hmix (go_run' ttok 2 rfl ?_)))
  refine go_lenT I l ttok rfl rfl rfl rfl rfl rfl ?_
  refine go_run' ttok 1 rfl (go_nil nd (then_norm ?_))
  refine awp_cond (b := (decide (i < ((l.length : Nat) : Int)))) rfl (fun c5 => ?_) (fun c5 => ?_)
  ·replace hz3 := of_bif_t hz3 c5
   refine awp_skip (then_norm (awp_seq (awp_block (awp_seq (awp_go hmix (go_run' ttok 2 rfl ?_))))))
   obtain ⟨e, hv6, hz3⟩ := of_obind hz3
   refine go_indexT I l i e hv6 ttok rfl rfl rfl rfl rfl rfl rfl rfl rfl ?_
   refine go_run' ttok 3 rfl ?_
   refine go_gcase rfl rfl rfl (fun g7 => ?_) (fun g7 => ?_)
   ·rw [g7]
    replace hz3 := of_bif_t hz3 g7
    refine go_run' ttok 6 rfl (go_nil nd (then_norm ?_))
    refine awp_cond rfl (fun tt0 => ?_) (fun h => by cases h)
    clear tt0
    refine awp_seq (awp_go hmix (go_run' ttok 1 rfl (go_nil nd (then_norm (awp_ret (block_ret (then_ret ?_)))))))
    obtain ⟨t, hn8, hq⟩ := of_mapr' hz3
    subst hq
    have hq : t = _ := hk4
    subst hq
    refine then_ret (block_ret ?_)
    obtain ⟨t1, hn9, hq⟩ := of_mapl' hn8
    subst hq
    have hq := of_inl h
    replace hq := of_some hq
    subst hq
    refine then_ret ?_
    have e10 := of_some hn9
    subst e10
    refine ret_ret ?_
    refine fin0 ttok rfl rfl ?_
    exact (wkP_refl _ rfl)
   ·rw [g7]
    replace hz3 := of_bif_f hz3 g7
    refine go_run' ttok 2 rfl ?_
    obtain ⟨e1, hv11, hz3⟩ := of_obind hz3
    refine go_indexT I l i e1 hv11 ttok rfl rfl rfl rfl rfl rfl rfl rfl rfl ?_
    refine go_run' ttok 3 rfl (go_nil nd (then_norm ?_))
    refine awp_cond (b := (decide (1099511627776 < e1))) rfl (fun c12 => ?_) (fun c12 => ?_)
    ·replace hz3 := of_bif_t hz3 c12
     refine awp_seq (awp_go hmix (go_run' ttok 1 rfl (go_nil nd (then_norm (awp_ret (block_ret (then_ret ?_)))))))
     obtain ⟨t2, hn13, hq⟩ := of_mapr' hz3
     subst hq
     have hq : t2 = _ := hk4
     subst hq
     refine then_ret (block_ret ?_)
     obtain ⟨t3, hn14, hq⟩ := of_mapl' hn13
     subst hq
     have hq := of_inl h
     replace hq := of_some hq
     subst hq
     refine then_ret ?_
     have e15 := of_some hn14
     subst e15
     refine ret_ret ?_
     refine fin0 ttok rfl rfl ?_
     exact (wkP_refl _ rfl)
    ·replace hz3 := of_bif_f hz3 c12
     refine awp_skip (block_norm (then_norm (awp_go hmix (go_run' ttok 3 rfl (go_nil nd ?_)))))
     have e16 := of_some hz3
     subst e16
     refine then_norm ⟨rfl, (W64 (i + 1)), [], ⟨rfl, rfl, rfl, rfl, rfl, ⟨wkP_id _ rfl, trivial⟩, trivial⟩, hk4⟩
  ·replace hz3 := of_bif_f hz3 c5
   refine awp_exit (then_exit ?_)
   obtain ⟨t4, hn17, hq⟩ := of_mapr' hz3
   subst hq
   have hq : t4 = _ := hk4
   subst hq
   refine then_exit (block_here ?_)
   have e18 := of_some hn17
   refine then_norm ⟨rfl, (), [], ⟨rfl, rfl, rfl, rfl, rfl, trivial, trivial⟩, e18⟩
 ·intro w hw2
  subst hw2
  replace h := of_inr h
  refine awp_seq (awp_go hmix (go_run' ttok 1 rfl (go_nil nd (then_norm (awp_ret ?_)))))
  have e19 := of_some h
  subst e19
  refine ret_ret ?_
  refine fin0 ttok rfl rfl ?_
  exact (wkP_refl _ rfl)
noncomputable def r05_Uint_r : Nat → Int → Option ByteArray
 | 0 => fun _ => none
 | N + 1 => fun n =>
 (bif (decide (n < 128)) then some (b2s ([(WU8 n)])) else (Option.bind (r05_Uint_r N (WU64 (Int.tdiv n 128))) (fun uv => (Option.bind (catO (b2s ([(WU8 (WU64 (128 + (Int.tmod n 128))))])) uv) (fun t => some t)))))
theorem r05_Uint_mono : ∀ (N : Nat) (n : Int) , OLe (r05_Uint_r N n) (r05_Uint_r (N + 1) n) := by
 intro N
 induction N with
 | zero => intro n r h; cases h
 | succ N ih =>
  intro n
  rw [r05_Uint_r, r05_Uint_r]
  repeat' (first | exact ole_rfl | exact ih _ | refine ole_bif ?_ ?_ | refine ole_bind ?_ (fun _ => ?_) | refine ole_let (fun _ => ?_) | refine ole_map ?_ | refine ole_elim (fun _ => ?_) (fun _ => ?_))
noncomputable def r05_Uint_g (n : Int) : Option ByteArray := limO (fun N => r05_Uint_r N n)
theorem r05_Uint_rw : ∀ (N : Nat) (n : Int) (r : ByteArray) (h : r05_Uint_r N n = some r), Holds Tryz.prog 107 [(U64 n)] [] (S r) [] := by
 intro N
 induction N with
 | zero => intro n r h; cases h
 | succ N ih =>
  intro n r h
  rw [r05_Uint_r] at h
  refine holds_fn Tryz.func107 rfl Tryz.ntmps107 rfl rfl rfl (fun lim => ?_)
  refine awp_seq (awp_go hmix (go_run' ttok 1 rfl (go_nil nd (then_norm (awp_seq (awp_seq (awp_go hmix (go_run' ttok 2 rfl (go_nil nd (then_norm ?_))))))))))
  refine awp_cond (b := (decide (n < 128))) rfl (fun c1 => ?_) (fun c1 => ?_)
  ·replace h := of_bif_t h c1
   refine awp_seq (awp_go hmix (go_run' ttok 3 rfl ?_))
   refine go_b2s ([(WU8 n)]) (by first | rfl | (simp [setI]; done) | omega | (dsimp only; omega) | (simp [setI]; omega)) ttok rfl rfl rfl rfl rfl rfl rfl rfl rfl rfl rfl rfl ?_
   refine go_run' ttok 1 rfl (go_nil nd (then_norm (awp_ret (then_ret ?_))))
   have e2 := of_some h
   subst e2
   refine ret_ret ?_
   refine fin0 ttok rfl rfl ?_
   exact (wkP_refl _ rfl)
  ·replace h := of_bif_f h c1
   refine awp_skip (then_norm (awp_seq (awp_go hmix (go_run' ttok 5 rfl ?_))))
   refine go_b2s ([(WU8 (WU64 (128 + (Int.tmod n 128))))]) (by first | rfl | (simp [setI]; done) | omega | (dsimp only; omega) | (simp [setI]; omega)) ttok rfl rfl rfl rfl rfl rfl rfl rfl rfl rfl rfl rfl ?_
   refine go_run' ttok 2 rfl ?_
   obtain ⟨uv, hv3, h⟩ := of_obind h
   refine go_call fn107 (ih (WU64 (Int.tdiv n 128)) uv hv3) rfl rfl rfl rfl rfl rfl rfl ?_
   obtain ⟨t, hv4, h⟩ := of_obind h
   refine go_catT (b2s ([(WU8 (WU64 (128 + (Int.tmod n 128))))])) uv t hv4 rfl rfl rfl rfl rfl ?_
   refine go_run' ttok 1 rfl ?_
   refine go_nil (fun _ => by kernel_rfl) ?_
   refine then_norm (awp_ret ?_)
   have e5 := of_some h
   subst e5
   refine ret_ret ?_
   refine fin0 ttok rfl rfl ?_
   exact (wkP_refl _ rfl)
theorem r05_Uint_w (n : Int) (r : ByteArray) (h : r05_Uint_g n = some r) : Holds Tryz.prog 107 [(U64 n)] [] (S r) [] := by
 obtain ⟨N, hN⟩ := limO_some h
 exact r05_Uint_rw N n r hN
theorem r05_Uint_g_of {N : Nat} (n : Int) {r : ByteArray} (h : r05_Uint_r N n = some r) : r05_Uint_g n = some r := limO_of (fun N => r05_Uint_mono N n) h
noncomputable def r05_Text_g (s : ByteArray) : Option ByteArray :=
 (Option.bind (r05_Uint_g (WU64 ((s.size : Nat) : Int))) (fun uv => (Option.bind (catO uv s) (fun t => some t))))
theorem r05_Text_w (s : ByteArray) (r : ByteArray) (h : r05_Text_g s = some r) : Holds Tryz.prog 58 [(S s)] [] (S r) [] := by
 unfold r05_Text_g at h
 refine holds_fn Tryz.func58 rfl Tryz.ntmps58 rfl rfl rfl (fun lim => ?_)
 refine awp_seq (awp_go hmix (go_run' ttok 1 rfl (go_nil nd (then_norm (awp_seq (awp_go hmix (go_run' ttok 3 rfl ?_)))))))
 obtain ⟨uv, hv1, h⟩ := of_obind h
 refine go_call fn107 (r05_Uint_w (WU64 ((s.size : Nat) : Int)) uv hv1) rfl rfl rfl rfl rfl rfl rfl ?_
 refine go_run' ttok 1 rfl ?_
 obtain ⟨t, hv2, h⟩ := of_obind h
 refine go_catT uv s t hv2 rfl rfl rfl rfl rfl ?_
 refine go_run' ttok 1 rfl (go_nil nd (then_norm (awp_ret ?_)))
 have e3 := of_some h
 subst e3
 refine ret_ret ?_
 refine fin0 ttok rfl rfl ?_
 exact (wkP_refl _ rfl)
noncomputable def r05_Zigzag_g (n : Int) : Int :=
 (bif (decide (0 ≤ n)) then (WU64 (2 * (WU64 n))) else (WU64 ((WU64 (2 * (WU64 (W64 (0 - (W64 (n + 1))))))) + 1)))
theorem r05_Zigzag_w (n : Int) (r : Int) (h : r05_Zigzag_g n = r) : Holds Tryz.prog 155 [(I n)] [] (U64 r) [] := by
 unfold r05_Zigzag_g at h
 refine holds_fn Tryz.func155 rfl Tryz.ntmps155 rfl rfl rfl (fun lim => ?_)
 refine awp_seq (awp_go hmix (go_run' ttok 1 rfl (go_nil nd (then_norm (awp_seq (awp_seq (awp_go hmix (go_run' ttok 2 rfl (go_nil nd (then_norm ?_))))))))))
 refine awp_cond (b := (decide (0 ≤ n))) rfl (fun c1 => ?_) (fun c1 => ?_)
 ·replace h := of_bif_t h c1
  refine awp_seq (awp_go hmix (go_run' ttok 4 rfl (go_nil nd (then_norm (awp_ret (then_ret ?_))))))
  have e2 := h
  subst e2
  refine ret_ret ?_
  refine fin0 ttok rfl rfl ?_
  exact (wkP_refl _ rfl)
 ·replace h := of_bif_f h c1
  refine awp_skip (then_norm (awp_seq (awp_go hmix (go_run' ttok 7 rfl (go_nil nd (then_norm (awp_ret ?_)))))))
  have e3 := h
  subst e3
  refine ret_ret ?_
  refine fin0 ttok rfl rfl ?_
  exact (wkP_refl _ rfl)
noncomputable def r05_Int_g (n : Int) : Option ByteArray :=
 (Option.bind (r05_Uint_g (r05_Zigzag_g n)) (fun uv => some uv))
theorem r05_Int_w (n : Int) (r : ByteArray) (h : r05_Int_g n = some r) : Holds Tryz.prog 108 [(I n)] [] (S r) [] := by
 unfold r05_Int_g at h
 refine holds_fn Tryz.func108 rfl Tryz.ntmps108 rfl rfl rfl (fun lim => ?_)
 refine awp_seq (awp_go hmix (go_run' ttok 1 rfl (go_nil nd (then_norm (awp_seq (awp_go hmix (go_run' ttok 1 rfl ?_)))))))
 refine go_call fn155 (r05_Zigzag_w n _ rfl) rfl rfl rfl rfl rfl rfl rfl ?_
 obtain ⟨uv, hv1, h⟩ := of_obind h
 refine go_call fn107 (r05_Uint_w (r05_Zigzag_g n) uv hv1) rfl rfl rfl rfl rfl rfl rfl ?_
 refine go_run' ttok 1 rfl (go_nil nd (then_norm (awp_ret ?_)))
 have e2 := of_some h
 subst e2
 refine ret_ret ?_
 refine fin0 ttok rfl rfl ?_
 exact (wkP_refl _ rfl)
noncomputable def r05_Ints_s1 (l : (List Int)) (s1 : ByteArray) (i : Int) : Option ((ByteArray × Int) ⊕ ByteArray) :=
 (bif (decide (i < ((l.length : Nat) : Int))) then (Option.bind (getI l i) (fun e => (Option.bind (r05_Int_g e) (fun iv => (Option.bind (catO s1 iv) (fun t => some (Sum.inl (t, (W64 (i + 1)))))))))) else some (Sum.inr s1))
noncomputable def r05_Ints_g (l : (List Int)) : Option ByteArray :=
 (Option.bind (r05_Uint_g (WU64 ((l.length : Nat) : Int))) (fun uv => (Option.bind ((loopO (fun q => r05_Ints_s1 l q.1 q.2) (uv, 0)) : Option ByteArray) (fun s => some s))))
theorem r05_Ints_w (l : (List Int)) (r : ByteArray) (h : r05_Ints_g l = some r) : Holds Tryz.prog 59 [((encL I) l)] [] (S r) [] := by
 unfold r05_Ints_g at h
 refine holds_fn Tryz.func59 rfl Tryz.ntmps59 rfl rfl rfl (fun lim => ?_)
 refine awp_seq (awp_go hmix (go_run' ttok 1 rfl (go_nil nd (then_norm (awp_seq (awp_go hmix (go_run' ttok 1 rfl ?_)))))))
 refine go_lenT I l ttok rfl rfl rfl rfl rfl rfl ?_
 refine go_run' ttok 1 rfl ?_
 obtain ⟨uv, hv1, h⟩ := of_obind h
 refine go_call fn107 (r05_Uint_w (WU64 ((l.length : Nat) : Int)) uv hv1) rfl rfl rfl rfl rfl rfl rfl ?_
 refine go_run' ttok 1 rfl (go_nil nd (then_norm ?_))
 obtain ⟨y, hx2, h⟩ := of_obind h
 refine awp_seqJ (X := ByteArray) [] [] (fun w => [(3, (S w))]) (fun w => []) (fun w => w = y) rfl rfl ?_ ?_
 ·skip
  refine awp_seq (awp_go hmix (go_run' ttok 1 rfl (go_nil nd (then_norm (awp_block ?_)))))
  refine awp_loopD (X := (ByteArray × Int)) (Y := ByteArray) [0] [] (fun q => [(3, (S q.1)), (4, (I q.2))]) (fun q => []) (fun q => r05_Ints_s1 l q.1 q.2) (uv, 0) [] hx2 ⟨rfl, rfl, rfl, rfl, rfl, ⟨wkP_id _ rfl, wkP_id _ rfl, trivial⟩, trivial⟩ (fun x vR vz hz4 hk5 => ?_)
  obtain ⟨s1, i⟩ := x
  change r05_Ints_s1 l s1 i = _ at hz4
  unfold r05_Ints_s1 at hz4
  refine awp_seq (awp_seq (awp_go hmix (go_run' ttok 2 rfl ?_)))
  refine go_lenT I l ttok rfl rfl rfl rfl rfl rfl ?_
  refine go_run' ttok 1 rfl (go_nil nd (then_norm ?_))
  refine awp_cond (b := (decide (i < ((l.length : Nat) : Int)))) rfl (fun c6 => ?_) (fun c6 => ?_)
  ·replace hz4 := of_bif_t hz4 c6
   refine awp_skip (then_norm (awp_seq (awp_block (awp_go hmix (go_run' ttok 3 rfl ?_)))))
   obtain ⟨e, hv7, hz4⟩ := of_obind hz4
   refine go_indexT I l i e hv7 ttok rfl rfl rfl rfl rfl rfl rfl rfl rfl ?_
   refine go_run' ttok 1 rfl ?_
   obtain ⟨iv, hv8, hz4⟩ := of_obind hz4
   refine go_call fn108 (r05_Int_w e iv hv8) rfl rfl rfl rfl rfl rfl rfl ?_
   obtain ⟨t, hv9, hz4⟩ := of_obind hz4
   refine go_catT s1 iv t hv9 rfl rfl rfl rfl rfl ?_
   refine go_run' ttok 1 rfl (go_nil nd (block_norm (then_norm (awp_go hmix (go_run' ttok 3 rfl (go_nil nd ?_))))))
   have e10 := of_some hz4
   subst e10
   refine then_norm ⟨rfl, (t, (W64 (i + 1))), [], ⟨rfl, rfl, rfl, rfl, rfl, ⟨wkP_id _ rfl, wkP_id _ rfl, trivial⟩, trivial⟩, hk5⟩
  ·replace hz4 := of_bif_f hz4 c6
   refine awp_exit (then_exit ?_)
   obtain ⟨t1, hn11, hq⟩ := of_mapr' hz4
   subst hq
   have hq : t1 = _ := hk5
   subst hq
   refine then_exit (block_here ?_)
   have e12 := of_some hn11
   refine then_norm ⟨rfl, s1, [], ⟨rfl, rfl, rfl, rfl, rfl, ⟨wkP_id _ rfl, trivial⟩, trivial⟩, e12⟩
 ·intro s hw3
  subst hw3
  refine awp_seq (awp_go hmix (go_run' ttok 2 rfl (go_nil nd (then_norm (awp_ret ?_)))))
  have e13 := of_some h
  subst e13
  refine ret_ret ?_
  refine fin0 ttok rfl rfl ?_
  exact (wkP_refl _ rfl)
noncomputable def r30_Encode_g (b : TBoard) : Option (ByteArray × Int) :=
 (bif (decide (16 < ((b.Id.size : Nat) : Int))) then some ((⟨#[]⟩ : ByteArray), 6) else (bif (decide (16 < ((b.Log.size : Nat) : Int))) then some ((⟨#[]⟩ : ByteArray), 6) else (bif (decide (16 < ((b.Species.size : Nat) : Int))) then some ((⟨#[]⟩ : ByteArray), 6) else (bif (decide (64 < ((b.Defects.length : Nat) : Int))) then some ((⟨#[]⟩ : ByteArray), 4) else (letB (r30_numbers_g b) (fun nv => (Option.bind (r30_marks_g b.Defects) (fun mv => (Option.bind (r30_ranged_g nv) (fun rv => (bif (!rv) then some ((⟨#[]⟩ : ByteArray), 9) else (Option.bind (r30_ranged_g mv) (fun rv1 => (bif (!rv1) then some ((⟨#[]⟩ : ByteArray), 9) else (Option.bind (r05_Text_g b.Id) (fun tv => (Option.bind (r05_Text_g b.Log) (fun tv1 => (Option.bind (catO tv tv1) (fun t => (Option.bind (r05_Text_g b.Species) (fun tv2 => (Option.bind (catO t tv2) (fun t1 => (Option.bind (r05_Ints_g nv) (fun iv => (Option.bind (catO t1 iv) (fun t2 => (Option.bind (r05_Ints_g mv) (fun iv1 => (Option.bind (catO t2 iv1) (fun t3 => some (t3, 0)))))))))))))))))))))))))))))))))
theorem r30_Encode_w (b : TBoard) (r : (ByteArray × Int)) (h : r30_Encode_g b = some r) : Holds Tryz.prog 17 [(encTBoard b)] [] (.tup [(S r.1), (I r.2)]) [] := by
 unfold r30_Encode_g at h
 refine holds_fn Tryz.func17 rfl Tryz.ntmps17 rfl rfl rfl (fun lim => ?_)
 refine awp_seq (awp_go hmix (go_run' ttok 3 rfl (go_nil nd (then_norm (awp_seq (awp_seq (awp_go hmix (go_run' ttok 5 rfl ?_))))))))
 refine go_gcase rfl rfl rfl (fun g1 => ?_) (fun g1 => ?_)
 ·rw [g1]
  replace h := of_bif_t h g1
  refine go_run' ttok 11 rfl (go_nil nd (then_norm ?_))
  refine awp_cond rfl (fun tt0 => ?_) (fun h => by cases h)
  clear tt0
  refine awp_seq (awp_go hmix (go_run' ttok 2 rfl (go_nil nd (then_norm (awp_ret (then_ret ?_))))))
  have e2 := of_some h
  subst e2
  refine ret_ret ?_
  refine fin0 ttok rfl rfl ?_
  exact wkP_refl _ rfl
 ·rw [g1]
  replace h := of_bif_f h g1
  refine go_run' ttok 6 rfl ?_
  refine go_gcase rfl rfl rfl (fun g3 => ?_) (fun g3 => ?_)
  ·rw [g3]
   replace h := of_bif_t h g3
   refine go_run' ttok 5 rfl (go_nil nd (then_norm ?_))
   refine awp_cond rfl (fun tt0 => ?_) (fun h => by cases h)
   clear tt0
   refine awp_seq (awp_go hmix (go_run' ttok 2 rfl (go_nil nd (then_norm (awp_ret (then_ret ?_))))))
   have e4 := of_some h
   subst e4
   refine ret_ret ?_
   refine fin0 ttok rfl rfl ?_
   exact wkP_refl _ rfl
  ·rw [g3]
   replace h := of_bif_f h g3
   refine go_run' ttok 5 rfl (go_nil nd (then_norm ?_))
   refine awp_cond (b := (decide (16 < ((b.Species.size : Nat) : Int)))) rfl (fun c5 => ?_) (fun c5 => ?_)
   ·replace h := of_bif_t h c5
    refine awp_seq (awp_go hmix (go_run' ttok 2 rfl (go_nil nd (then_norm (awp_ret (then_ret ?_))))))
    have e6 := of_some h
    subst e6
    refine ret_ret ?_
    refine fin0 ttok rfl rfl ?_
    exact wkP_refl _ rfl
   ·replace h := of_bif_f h c5
    refine awp_skip (then_norm (awp_seq (awp_seq (awp_go hmix (go_run' ttok 2 rfl ?_)))))
    refine go_lenT encDf b.Defects ttok rfl rfl rfl rfl rfl rfl ?_
    refine go_run' ttok 1 rfl (go_nil nd (then_norm ?_))
    refine awp_cond (b := (decide (64 < ((b.Defects.length : Nat) : Int)))) rfl (fun c7 => ?_) (fun c7 => ?_)
    ·replace h := of_bif_t h c7
     refine awp_seq (awp_go hmix (go_run' ttok 2 rfl (go_nil nd (then_norm (awp_ret (then_ret ?_))))))
     have e8 := of_some h
     subst e8
     refine ret_ret ?_
     refine fin0 ttok rfl rfl ?_
     exact wkP_refl _ rfl
    ·replace h := of_bif_f h c7
     refine awp_skip (then_norm (awp_seq (awp_go hmix (go_run' ttok 1 rfl ?_))))
     obtain ⟨nv, hv9, h⟩ := of_let h
     refine go_call fn55 (r30_numbers_w b nv hv9) rfl rfl rfl rfl rfl rfl rfl ?_
     refine go_run' ttok 2 rfl ?_
     obtain ⟨mv, hv10, h⟩ := of_obind h
     refine go_call fn56 (r30_marks_w b.Defects mv hv10) rfl rfl rfl rfl rfl rfl rfl ?_
     refine go_run' ttok 2 rfl ?_
     refine go_nil (fun _ => by kernel_rfl) ?_
     refine then_norm (awp_seq (awp_seq (awp_go hmix (go_run' ttok 1 rfl ?_))))
     obtain ⟨rv, hv11, h⟩ := of_obind h
     refine go_call fn57 (r30_ranged_w nv rv hv11) rfl rfl rfl rfl rfl rfl rfl ?_
     refine go_run' ttok 2 rfl ?_
     refine go_gcase rfl rfl rfl (fun g12 => ?_) (fun g12 => ?_)
     ·rw [g12]
      replace h := of_bif_t h g12
      refine go_run' ttok 4 rfl (go_nil nd (then_norm ?_))
      refine awp_cond rfl (fun tt0 => ?_) (fun h => by cases h)
      clear tt0
      refine awp_seq (awp_go hmix (go_run' ttok 2 rfl (go_nil nd (then_norm (awp_ret (then_ret ?_))))))
      have e13 := of_some h
      subst e13
      refine ret_ret ?_
      refine fin0 ttok rfl rfl ?_
      exact wkP_refl _ rfl
     ·rw [g12]
      replace h := of_bif_f h g12
      refine go_run' ttok 1 rfl ?_
      obtain ⟨rv1, hv14, h⟩ := of_obind h
      refine go_call fn57 (r30_ranged_w mv rv1 hv14) rfl rfl rfl rfl rfl rfl rfl ?_
      refine go_run' ttok 2 rfl (go_nil nd (then_norm ?_))
      refine awp_cond (b := (!rv1)) rfl (fun c15 => ?_) (fun c15 => ?_)
      ·replace h := of_bif_t h c15
       refine awp_seq (awp_go hmix (go_run' ttok 2 rfl (go_nil nd (then_norm (awp_ret (then_ret ?_))))))
       have e16 := of_some h
       subst e16
       refine ret_ret ?_
       refine fin0 ttok rfl rfl ?_
       exact wkP_refl _ rfl
      ·replace h := of_bif_f h c15
       refine awp_skip (then_norm (awp_seq (awp_go hmix (go_run' ttok 2 rfl ?_))))
       obtain ⟨tv, hv17, h⟩ := of_obind h
       refine go_call fn58 (r05_Text_w b.Id tv hv17) rfl rfl rfl rfl rfl rfl rfl ?_
       refine go_run' ttok 2 rfl ?_
       obtain ⟨tv1, hv18, h⟩ := of_obind h
       refine go_call fn58 (r05_Text_w b.Log tv1 hv18) rfl rfl rfl rfl rfl rfl rfl ?_
       obtain ⟨t, hv19, h⟩ := of_obind h
       refine go_catT tv tv1 t hv19 rfl rfl rfl rfl rfl ?_
       refine go_run' ttok 2 rfl ?_
       obtain ⟨tv2, hv20, h⟩ := of_obind h
       refine go_call fn58 (r05_Text_w b.Species tv2 hv20) rfl rfl rfl rfl rfl rfl rfl ?_
       obtain ⟨t1, hv21, h⟩ := of_obind h
       refine go_catT t tv2 t1 hv21 rfl rfl rfl rfl rfl ?_
       refine go_run' ttok 1 rfl ?_
       obtain ⟨iv, hv22, h⟩ := of_obind h
       refine go_call fn59 (r05_Ints_w nv iv hv22) rfl rfl rfl rfl rfl rfl rfl ?_
       obtain ⟨t2, hv23, h⟩ := of_obind h
       refine go_catT t1 iv t2 hv23 rfl rfl rfl rfl rfl ?_
       refine go_run' ttok 1 rfl ?_
       obtain ⟨iv1, hv24, h⟩ := of_obind h
       refine go_call fn59 (r05_Ints_w mv iv1 hv24) rfl rfl rfl rfl rfl rfl rfl ?_
       obtain ⟨t3, hv25, h⟩ := of_obind h
       refine go_catT t2 iv1 t3 hv25 rfl rfl rfl rfl rfl ?_
       refine go_run' ttok 2 rfl ?_
       refine go_nil (fun _ => by kernel_rfl) ?_
       refine then_norm (awp_ret ?_)
       have e26 := of_some h
       subst e26
       refine ret_ret ?_
       refine fin0 ttok rfl rfl ?_
       exact wkP_refl _ rfl
noncomputable def r05_NewReader_g (s : ByteArray) : Tsawmillref05_Reader :=
 (⟨s, 0, 0⟩ : Tsawmillref05_Reader)
theorem r05_NewReader_w (s : ByteArray) (r : Tsawmillref05_Reader) (h : r05_NewReader_g s = r) : Holds Tryz.prog 67 [(S s)] [] (encTsawmillref05_Reader r) [] := by
 unfold r05_NewReader_g at h
 refine holds_fn Tryz.func67 rfl Tryz.ntmps67 rfl rfl rfl (fun lim => ?_)
 refine awp_seq (awp_go hmix (go_run' ttok 1 rfl (go_nil nd (then_norm (awp_seq (awp_go hmix (go_run' ttok 3 rfl (go_nil nd (then_norm (awp_ret ?_))))))))))
 have e1 := h
 subst e1
 refine ret_ret ?_
 refine fin0 ttok rfl rfl ?_
 exact (wkP_refl _ rfl)
end Go.Proofs.YtpoehckffpbfiaaGreat
