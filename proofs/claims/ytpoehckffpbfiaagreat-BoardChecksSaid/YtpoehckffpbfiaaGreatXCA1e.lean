/- A1e: what functions of the program compute (written by mod.py). -/
import Derived.Test.YtpoehckffpbfiaaGreatXCA1d
import Derived.KernelRfl
namespace Go.Proofs.YtpoehckffpbfiaaGreat
open Go Go.Ab
set_option linter.unusedSimpArgs false
set_option linter.unusedVariables false
set_option linter.unusedSectionVars false
set_option maxRecDepth 20000
set_option maxHeartbeats 1000000
noncomputable def board_Same_g (a : TBoard) (b : TBoard) : Option Bool :=
 (bif (bEq a.Id b.Id) then (bif (bEq a.Log b.Log) then (bif (bEq a.Species b.Species) then (bif (a.Product == b.Product) then (bif (eqV encBx a.Box b.Box) then (bif (a.Volume == b.Volume) then (Option.bind (api_Defect__g a.Defects b.Defects) (fun dv => (bif dv then (bif (a.Wane == b.Wane) then (bif (eqV encTCell a.Cell b.Cell) then (bif (a.Dried == b.Dried) then some (a.Grade == b.Grade) else some false) else some false) else some false) else some false))) else some false) else some false) else some false) else some false) else some false) else some false)
theorem board_Same_w (a : TBoard) (b : TBoard) (r : Bool) (h : board_Same_g a b = some r) : Holds Tryz.prog 44 [(encTBoard a), (encTBoard b)] [] (B r) [] := by
 unfold board_Same_g at h
 refine holds_fn Tryz.func44 rfl Tryz.ntmps44 rfl rfl rfl (fun lim => ?_)
 refine awp_seq (awp_go hmix (go_run' ttok 3 rfl (go_nil nd (then_norm (awp_seq (awp_go hmix (go_run' ttok 4 rfl ?_)))))))
 refine go_eqlS a.Id b.Id rfl rfl rfl rfl rfl ?_
 refine go_run' ttok 1 rfl ?_
 refine go_gcase rfl rfl rfl (fun g1 => ?_) (fun g1 => ?_)
 ·rw [g1]
  replace h := of_bif_t h g1
  refine go_run' ttok 4 rfl ?_
  refine go_eqlS a.Log b.Log rfl rfl rfl rfl rfl ?_
  refine go_run' ttok 2 rfl ?_
  refine go_gcase rfl rfl rfl (fun g2 => ?_) (fun g2 => ?_)
  ·rw [g2]
   replace h := of_bif_t h g2
   refine go_run' ttok 4 rfl ?_
   refine go_eqlS a.Species b.Species rfl rfl rfl rfl rfl ?_
   refine go_run' ttok 2 rfl ?_
   refine go_gcase rfl rfl rfl (fun g3 => ?_) (fun g3 => ?_)
   ·rw [g3]
    replace h := of_bif_t h g3
    refine go_run' ttok 7 rfl ?_
    refine go_gcase rfl rfl rfl (fun g4 => ?_) (fun g4 => ?_)
    ·rw [g4]
     replace h := of_bif_t h g4
     refine go_run' ttok 4 rfl ?_
     refine go_step rfl (as_eqAgg shBx rfl eqT25_1 eqT25_2 (by decide) rfl rfl rfl rfl rfl) rfl rfl rfl ?_
     refine go_run' ttok 2 rfl ?_
     refine go_gcase rfl rfl rfl (fun g5 => ?_) (fun g5 => ?_)
     ·rw [g5]
      replace h := of_bif_t h g5
      refine go_run' ttok 7 rfl ?_
      refine go_gcase rfl rfl rfl (fun g6 => ?_) (fun g6 => ?_)
      ·rw [g6]
       replace h := of_bif_t h g6
       refine go_run' ttok 4 rfl ?_
       obtain ⟨dv, hv7, h⟩ := of_obind h
       refine go_call fn91 (api_Defect__w a.Defects b.Defects dv hv7) rfl rfl rfl rfl rfl rfl rfl ?_
       refine go_run' ttok 2 rfl ?_
       refine go_gcase rfl rfl rfl (fun g8 => ?_) (fun g8 => ?_)
       ·rw [g8]
        replace h := of_bif_t h g8
        refine go_run' ttok 7 rfl ?_
        refine go_gcase rfl rfl rfl (fun g9 => ?_) (fun g9 => ?_)
        ·rw [g9]
         replace h := of_bif_t h g9
         refine go_run' ttok 4 rfl ?_
         refine go_step rfl (as_eqAgg shTCell rfl eqT28_1 eqT28_2 (by decide) rfl rfl rfl rfl rfl) rfl rfl rfl ?_
         refine go_run' ttok 2 rfl ?_
         refine go_gcase rfl rfl rfl (fun g10 => ?_) (fun g10 => ?_)
         ·rw [g10]
          replace h := of_bif_t h g10
          refine go_run' ttok 4 rfl ?_
          refine go_step rfl (as_eqBool rfl (ttok _ _ rfl) rfl rfl rfl) rfl rfl rfl ?_
          refine go_run' ttok 2 rfl ?_
          refine go_gcase rfl rfl rfl (fun g11 => ?_) (fun g11 => ?_)
          ·rw [g11]
           replace h := of_bif_t h g11
           refine go_run' ttok 7 rfl (go_nil nd (then_norm (awp_ret ?_)))
           have e12 := of_some h
           subst e12
           refine ret_ret ?_
           refine fin0 ttok rfl rfl ?_
           exact (wkP_refl _ rfl)
          ·rw [g11]
           replace h := of_bif_f h g11
           refine go_run' ttok 7 rfl (go_nil nd (then_norm (awp_ret ?_)))
           have e13 := of_some h
           subst e13
           refine ret_ret ?_
           refine fin0 ttok rfl rfl ?_
           exact (wkP_refl _ rfl)
         ·rw [g10]
          replace h := of_bif_f h g10
          refine go_run' ttok 14 rfl (go_nil nd (then_norm (awp_ret ?_)))
          have e14 := of_some h
          subst e14
          refine ret_ret ?_
          refine fin0 ttok rfl rfl ?_
          exact (wkP_refl _ rfl)
        ·rw [g9]
         replace h := of_bif_f h g9
         refine go_run' ttok 21 rfl (go_nil nd (then_norm (awp_ret ?_)))
         have e15 := of_some h
         subst e15
         refine ret_ret ?_
         refine fin0 ttok rfl rfl ?_
         exact (wkP_refl _ rfl)
       ·rw [g8]
        replace h := of_bif_f h g8
        refine go_run' ttok 28 rfl (go_nil nd (then_norm (awp_ret ?_)))
        have e16 := of_some h
        subst e16
        refine ret_ret ?_
        refine fin0 ttok rfl rfl ?_
        exact (wkP_refl _ rfl)
      ·rw [g6]
       replace h := of_bif_f h g6
       refine go_run' ttok 35 rfl (go_nil nd (then_norm (awp_ret ?_)))
       have e17 := of_some h
       subst e17
       refine ret_ret ?_
       refine fin0 ttok rfl rfl ?_
       exact (wkP_refl _ rfl)
     ·rw [g5]
      replace h := of_bif_f h g5
      refine go_run' ttok 42 rfl (go_nil nd (then_norm (awp_ret ?_)))
      have e18 := of_some h
      subst e18
      refine ret_ret ?_
      refine fin0 ttok rfl rfl ?_
      exact (wkP_refl _ rfl)
    ·rw [g4]
     replace h := of_bif_f h g4
     refine go_run' ttok 49 rfl (go_nil nd (then_norm (awp_ret ?_)))
     have e19 := of_some h
     subst e19
     refine ret_ret ?_
     refine fin0 ttok rfl rfl ?_
     exact (wkP_refl _ rfl)
   ·rw [g3]
    replace h := of_bif_f h g3
    refine go_run' ttok 56 rfl (go_nil nd (then_norm (awp_ret ?_)))
    have e20 := of_some h
    subst e20
    refine ret_ret ?_
    refine fin0 ttok rfl rfl ?_
    exact (wkP_refl _ rfl)
  ·rw [g2]
   replace h := of_bif_f h g2
   refine go_run' ttok 63 rfl (go_nil nd (then_norm (awp_ret ?_)))
   have e21 := of_some h
   subst e21
   refine ret_ret ?_
   refine fin0 ttok rfl rfl ?_
   exact (wkP_refl _ rfl)
 ·rw [g1]
  replace h := of_bif_f h g1
  refine go_run' ttok 70 rfl (go_nil nd (then_norm (awp_ret ?_)))
  have e22 := of_some h
  subst e22
  refine ret_ret ?_
  refine fin0 ttok rfl rfl ?_
  exact (wkP_refl _ rfl)
noncomputable def board_Same_c (N : Nat) (a : TBoard) (b : TBoard) : Option Bool :=
 (bif (bEq a.Id b.Id) then (bif (bEq a.Log b.Log) then (bif (bEq a.Species b.Species) then (bif (a.Product == b.Product) then (bif (eqV encBx a.Box b.Box) then (bif (a.Volume == b.Volume) then (Option.bind ((api_Defect__c N) a.Defects b.Defects) (fun dv => (bif dv then (bif (a.Wane == b.Wane) then (bif (eqV encTCell a.Cell b.Cell) then (bif (a.Dried == b.Dried) then some (a.Grade == b.Grade) else some false) else some false) else some false) else some false))) else some false) else some false) else some false) else some false) else some false) else some false)
theorem board_Same_le (N : Nat) (a : TBoard) (b : TBoard) : OLe (board_Same_c N a b) (board_Same_g a b) := by
 unfold board_Same_c board_Same_g
 repeat' (first | exact ole_rfl | exact api_Defect__le _ _ _ | refine ole_bif ?_ ?_ | refine ole_bind ?_ (fun _ => ?_) | refine ole_let (fun _ => ?_) | refine ole_map ?_ | refine ole_elim (fun _ => ?_) (fun _ => ?_) | refine ole_loop (fun _ => ?_))
noncomputable def board_Length_g (b : TBoard) : Int :=
 (bif (!(board_isAlong_g b.Box.z)) then 0 else (board_length_g b.Box.z))
theorem board_Length_w (b : TBoard) (r : Int) (h : board_Length_g b = r) : Holds Tryz.prog 45 [(encTBoard b)] [] (I r) [] := by
 unfold board_Length_g at h
 refine holds_fn Tryz.func45 rfl Tryz.ntmps45 rfl rfl rfl (fun lim => ?_)
 refine awp_seq (awp_go hmix (go_run' ttok 2 rfl (go_nil nd (then_norm (awp_seq (awp_seq (awp_go hmix (go_run' ttok 3 rfl ?_))))))))
 refine go_call fn79 (board_isAlong_w b.Box.z _ rfl) rfl rfl rfl rfl rfl rfl rfl ?_
 refine go_run' ttok 1 rfl (go_nil nd (then_norm ?_))
 refine awp_cond (b := (!(board_isAlong_g b.Box.z))) rfl (fun c1 => ?_) (fun c1 => ?_)
 ·replace h := of_bif_t h c1
  refine awp_seq (awp_go hmix (go_run' ttok 1 rfl (go_nil nd (then_norm (awp_ret (then_ret ?_))))))
  have e2 := h
  subst e2
  refine ret_ret ?_
  refine fin0 ttok rfl rfl ?_
  exact (wkP_refl _ rfl)
 ·replace h := of_bif_f h c1
  refine awp_skip (then_norm (awp_seq (awp_go hmix (go_run' ttok 3 rfl ?_))))
  refine go_call fn27 (board_length_w b.Box.z _ rfl) rfl rfl rfl rfl rfl rfl rfl ?_
  refine go_run' ttok 1 rfl (go_nil nd (then_norm (awp_ret ?_)))
  have e3 := h
  subst e3
  refine ret_ret ?_
  refine fin0 ttok rfl rfl ?_
  exact (wkP_refl _ rfl)
end Go.Proofs.YtpoehckffpbfiaaGreat
