/- A1b: what functions of the program compute (written by mod.py). -/
import Derived.Test.YtbgoflekklfdjaaA1a
import Derived.KernelRfl
namespace Go.Proofs.Ytbgoflekklfdjaa
open Go Go.Ab
set_option linter.unusedSimpArgs false
set_option linter.unusedVariables false
set_option maxRecDepth 20000

/-- sawmill/sawmillref41.Class -/
noncomputable def r41_Class_g (stiffness : Int) : Int :=
  (bif (decide (14000 ≤ stiffness)) then 1 else (bif (decide (11000 ≤ stiffness)) then 2 else (bif (decide (9000 ≤ stiffness)) then 3 else (bif (decide (7000 ≤ stiffness)) then 4 else 0))))
theorem r41_Class_w (stiffness : Int) (r : Int) (h : r41_Class_g stiffness = r) : Holds Try.prog 23 [(I stiffness)] [] (I r) [] := by
  unfold r41_Class_g at h
  refine holds_fn Try.func23 rfl Try.ntmps23 rfl rfl rfl ?_
  refine awp_seq ?_
  refine awp_go hmix ?_
  refine go_run' ttok 1 rfl ?_
  refine go_nil nd ?_
  refine then_norm ?_
  refine awp_seq ?_
  refine awp_block ?_
  refine awp_seq ?_
  refine awp_go hmix ?_
  refine go_run' ttok 3 rfl ?_
  refine go_nil nd ?_
  refine then_norm ?_
  refine awp_cond (b := (decide (14000 ≤ stiffness))) rfl (fun c1 => ?_) (fun c1 => ?_)
  · replace h := of_bif_t h c1
    refine awp_seq ?_
    refine awp_go hmix ?_
    refine go_run' ttok 1 rfl ?_
    refine go_nil nd ?_
    refine then_norm ?_
    refine awp_ret ?_
    refine block_ret ?_
    refine then_ret ?_
    have e2 := h
    subst e2
    refine ret_ret ?_
    refine fin0 ttok rfl rfl ?_
    exact (wkP_refl _ rfl)
  · replace h := of_bif_f h c1
    refine awp_seq ?_
    refine awp_go hmix ?_
    refine go_run' ttok 3 rfl ?_
    refine go_nil nd ?_
    refine then_norm ?_
    refine awp_cond (b := (decide (11000 ≤ stiffness))) rfl (fun c3 => ?_) (fun c3 => ?_)
    · replace h := of_bif_t h c3
      refine awp_seq ?_
      refine awp_go hmix ?_
      refine go_run' ttok 1 rfl ?_
      refine go_nil nd ?_
      refine then_norm ?_
      refine awp_ret ?_
      refine block_ret ?_
      refine then_ret ?_
      have e4 := h
      subst e4
      refine ret_ret ?_
      refine fin0 ttok rfl rfl ?_
      exact (wkP_refl _ rfl)
    · replace h := of_bif_f h c3
      refine awp_seq ?_
      refine awp_go hmix ?_
      refine go_run' ttok 3 rfl ?_
      refine go_nil nd ?_
      refine then_norm ?_
      refine awp_cond (b := (decide (9000 ≤ stiffness))) rfl (fun c5 => ?_) (fun c5 => ?_)
      · replace h := of_bif_t h c5
        refine awp_seq ?_
        refine awp_go hmix ?_
        refine go_run' ttok 1 rfl ?_
        refine go_nil nd ?_
        refine then_norm ?_
        refine awp_ret ?_
        refine block_ret ?_
        refine then_ret ?_
        have e6 := h
        subst e6
        refine ret_ret ?_
        refine fin0 ttok rfl rfl ?_
        exact (wkP_refl _ rfl)
      · replace h := of_bif_f h c5
        refine awp_seq ?_
        refine awp_go hmix ?_
        refine go_run' ttok 3 rfl ?_
        refine go_nil nd ?_
        refine then_norm ?_
        refine awp_cond (b := (decide (7000 ≤ stiffness))) rfl (fun c7 => ?_) (fun c7 => ?_)
        · replace h := of_bif_t h c7
          refine awp_seq ?_
          refine awp_go hmix ?_
          refine go_run' ttok 1 rfl ?_
          refine go_nil nd ?_
          refine then_norm ?_
          refine awp_ret ?_
          refine block_ret ?_
          refine then_ret ?_
          have e8 := h
          subst e8
          refine ret_ret ?_
          refine fin0 ttok rfl rfl ?_
          exact (wkP_refl _ rfl)
        · replace h := of_bif_f h c7
          refine awp_skip ?_
          refine block_norm ?_
          refine then_norm ?_
          refine awp_seq ?_
          refine awp_go hmix ?_
          refine go_run' ttok 1 rfl ?_
          refine go_nil nd ?_
          refine then_norm ?_
          refine awp_ret ?_
          have e9 := h
          subst e9
          refine ret_ret ?_
          refine fin0 ttok rfl rfl ?_
          exact (wkP_refl _ rfl)

/-- sawmill/sawmillref41.Name -/
noncomputable def r41_Name_g (vclass : Int) : ByteArray :=
  (bif (vclass == 1) then (⟨#[67, 51, 53]⟩ : ByteArray) else (bif (vclass == 2) then (⟨#[67, 50, 52]⟩ : ByteArray) else (bif (vclass == 3) then (⟨#[67, 49, 56]⟩ : ByteArray) else (bif (vclass == 4) then (⟨#[67, 49, 52]⟩ : ByteArray) else (⟨#[]⟩ : ByteArray)))))
theorem r41_Name_w (vclass : Int) (r : ByteArray) (h : r41_Name_g vclass = r) : Holds Try.prog 25 [(I vclass)] [] (S r) [] := by
  unfold r41_Name_g at h
  refine holds_fn Try.func25 rfl Try.ntmps25 rfl rfl rfl ?_
  refine awp_seq ?_
  refine awp_go hmix ?_
  refine go_run' ttok 1 rfl ?_
  refine go_nil nd ?_
  refine then_norm ?_
  refine awp_seq ?_
  refine awp_seq ?_
  refine awp_go hmix ?_
  refine go_run' ttok 1 rfl ?_
  refine go_nil nd ?_
  refine then_norm ?_
  refine awp_block ?_
  refine awp_seq ?_
  refine awp_go hmix ?_
  refine go_run' ttok 2 rfl ?_
  refine go_nil nd ?_
  refine then_norm ?_
  refine awp_cond (b := (vclass == 1)) rfl (fun c1 => ?_) (fun c1 => ?_)
  · replace h := of_bif_t h c1
    refine awp_seq ?_
    refine awp_go hmix ?_
    refine go_run' ttok 1 rfl ?_
    refine go_nil nd ?_
    refine then_norm ?_
    refine awp_ret ?_
    refine block_ret ?_
    refine then_ret ?_
    have e2 := h
    subst e2
    refine ret_ret ?_
    refine fin0 ttok rfl rfl ?_
    exact (wkP_refl _ rfl)
  · replace h := of_bif_f h c1
    refine awp_seq ?_
    refine awp_go hmix ?_
    refine go_run' ttok 2 rfl ?_
    refine go_nil nd ?_
    refine then_norm ?_
    refine awp_cond (b := (vclass == 2)) rfl (fun c3 => ?_) (fun c3 => ?_)
    · replace h := of_bif_t h c3
      refine awp_seq ?_
      refine awp_go hmix ?_
      refine go_run' ttok 1 rfl ?_
      refine go_nil nd ?_
      refine then_norm ?_
      refine awp_ret ?_
      refine block_ret ?_
      refine then_ret ?_
      have e4 := h
      subst e4
      refine ret_ret ?_
      refine fin0 ttok rfl rfl ?_
      exact (wkP_refl _ rfl)
    · replace h := of_bif_f h c3
      refine awp_seq ?_
      refine awp_go hmix ?_
      refine go_run' ttok 2 rfl ?_
      refine go_nil nd ?_
      refine then_norm ?_
      refine awp_cond (b := (vclass == 3)) rfl (fun c5 => ?_) (fun c5 => ?_)
      · replace h := of_bif_t h c5
        refine awp_seq ?_
        refine awp_go hmix ?_
        refine go_run' ttok 1 rfl ?_
        refine go_nil nd ?_
        refine then_norm ?_
        refine awp_ret ?_
        refine block_ret ?_
        refine then_ret ?_
        have e6 := h
        subst e6
        refine ret_ret ?_
        refine fin0 ttok rfl rfl ?_
        exact (wkP_refl _ rfl)
      · replace h := of_bif_f h c5
        refine awp_seq ?_
        refine awp_go hmix ?_
        refine go_run' ttok 2 rfl ?_
        refine go_nil nd ?_
        refine then_norm ?_
        refine awp_cond (b := (vclass == 4)) rfl (fun c7 => ?_) (fun c7 => ?_)
        · replace h := of_bif_t h c7
          refine awp_seq ?_
          refine awp_go hmix ?_
          refine go_run' ttok 1 rfl ?_
          refine go_nil nd ?_
          refine then_norm ?_
          refine awp_ret ?_
          refine block_ret ?_
          refine then_ret ?_
          have e8 := h
          subst e8
          refine ret_ret ?_
          refine fin0 ttok rfl rfl ?_
          exact (wkP_refl _ rfl)
        · replace h := of_bif_f h c7
          refine awp_skip ?_
          refine block_norm ?_
          refine then_norm ?_
          refine awp_seq ?_
          refine awp_go hmix ?_
          refine go_run' ttok 1 rfl ?_
          refine go_nil nd ?_
          refine then_norm ?_
          refine awp_ret ?_
          have e9 := h
          subst e9
          refine ret_ret ?_
          refine fin0 ttok rfl rfl ?_
          exact (wkP_refl _ rfl)

/-- sawmill/sawmilllaw41.StrengthClasses -/
noncomputable def l41_StrengthClasses_g (stiffness : Int) (vclass : Int) : Option Bool :=
  (Option.bind (strength_Class_g stiffness) (fun cv => (bif (cv == (r41_Class_g stiffness)) then (bif (bEq (strength_Name_g vclass) (r41_Name_g vclass)) then (Option.bind l41_awake_g (fun av => some av)) else some false) else some false)))
theorem l41_StrengthClasses_w (stiffness : Int) (vclass : Int) (r : Bool) (h : l41_StrengthClasses_g stiffness vclass = some r) : Holds Try.prog 4 [(I stiffness), (I vclass)] [] (B r) [] := by
  unfold l41_StrengthClasses_g at h
  refine holds_fn Try.func4 rfl Try.ntmps4 rfl rfl rfl ?_
  refine awp_seq ?_
  refine awp_go hmix ?_
  refine go_run' ttok 1 rfl ?_
  refine go_nil nd ?_
  refine then_norm ?_
  refine awp_seq ?_
  refine awp_go hmix ?_
  refine go_run' ttok 1 rfl ?_
  obtain ⟨cv, hv1, h⟩ := of_obind h
  refine go_call fn22 (strength_Class_w stiffness cv hv1) rfl rfl rfl rfl rfl rfl rfl ?_
  refine go_run' ttok 1 rfl ?_
  refine go_call fn23 (r41_Class_w stiffness _ rfl) rfl rfl rfl rfl rfl rfl rfl ?_
  refine go_run' ttok 2 rfl ?_
  refine go_gcase rfl rfl rfl (fun g2 => ?_) (fun g2 => ?_)
  · rw [g2]
    replace h := of_bif_t h g2
    refine go_run' ttok 1 rfl ?_
    refine go_call fn24 (strength_Name_w vclass _ rfl) rfl rfl rfl rfl rfl rfl rfl ?_
    refine go_run' ttok 1 rfl ?_
    refine go_call fn25 (r41_Name_w vclass _ rfl) rfl rfl rfl rfl rfl rfl rfl ?_
    refine go_eqlS (strength_Name_g vclass) (r41_Name_g vclass) rfl rfl rfl rfl rfl ?_
    refine go_run' ttok 2 rfl ?_
    refine go_gcase rfl rfl rfl (fun g3 => ?_) (fun g3 => ?_)
    · rw [g3]
      replace h := of_bif_t h g3
      obtain ⟨av, hv4, h⟩ := of_obind h
      refine go_call fn17 (l41_awake_w av hv4) rfl rfl rfl rfl rfl rfl rfl ?_
      refine go_run' ttok 2 rfl ?_
      refine go_nil nd ?_
      refine then_norm ?_
      refine awp_ret ?_
      have e5 := of_some h
      subst e5
      refine ret_ret ?_
      refine fin0 ttok rfl rfl ?_
      exact (wkP_refl _ rfl)
    · rw [g3]
      replace h := of_bif_f h g3
      refine go_run' ttok 3 rfl ?_
      refine go_nil nd ?_
      refine then_norm ?_
      refine awp_ret ?_
      have e6 := of_some h
      subst e6
      refine ret_ret ?_
      refine fin0 ttok rfl rfl ?_
      exact (wkP_refl _ rfl)
  · rw [g2]
    replace h := of_bif_f h g2
    refine go_run' ttok 10 rfl ?_
    refine go_nil nd ?_
    refine then_norm ?_
    refine awp_ret ?_
    have e7 := of_some h
    subst e7
    refine ret_ret ?_
    refine fin0 ttok rfl rfl ?_
    exact (wkP_refl _ rfl)

/-- sawmill/sawmilllaw41.StrengthOrder -/
noncomputable def l41_StrengthOrder_g (b : TBoard) (s : TSpecies) (d : Df) : Option Bool :=
  (bif (!(l41_few_g b s)) then (Option.bind l41_awake_g (fun av => some av)) else (Option.bind (r41_Right_g b s) (fun rv => (bif (!rv) then (Option.bind l41_awake_g (fun av1 => some av1)) else (Option.bind (strength_Stiffness_g b s) (fun sv => (Option.bind (strength_Knots_g b) (fun kv => (bif (decide (sv < 0)) then some false else (bif (decide (s.Stiff < sv)) then some false else (bif (decide (kv < 0)) then some false else (bif (decide (1000 < kv)) then some false else (Option.bind (appO 56 ([] : List Df) b.Defects) (fun l => (Option.bind (appO 56 l ([d])) (fun l1 => (Option.bind ((Option.bind (r13_Check_g l1) (fun cv => (bif (cv == 0) then (Option.bind (strength_Stiffness_g (⟨b.Id, b.Log, b.Species, b.Product, b.Box, b.Volume, l1, b.Wane, b.Cell, b.Dried, b.Grade⟩ : TBoard) s) (fun sv1 => (bif (decide (sv < sv1)) then some (Sum.inl false) else (Option.bind (strength_Knots_g (⟨b.Id, b.Log, b.Species, b.Product, b.Box, b.Volume, l1, b.Wane, b.Cell, b.Dried, b.Grade⟩ : TBoard)) (fun kv1 => (bif (decide (kv1 < kv)) then some (Sum.inl false) else (bif (!(r13_Knot_g d)) then (Option.bind (strength_Knots_g (⟨b.Id, b.Log, b.Species, b.Product, b.Box, b.Volume, l1, b.Wane, b.Cell, b.Dried, b.Grade⟩ : TBoard)) (fun kv2 => (bif (kv2 != kv) then some (Sum.inl false) else some (Sum.inr ())))) else some (Sum.inr ())))))))) else some (Sum.inr ())))) : Option (Bool ⊕ Unit)) (Sum.elim (fun q => some q) (fun _ => (Option.bind (strength_Stiffness_g (⟨b.Id, b.Log, b.Species, b.Product, b.Box, b.Volume, b.Defects, b.Wane, (⟨(min 20000 (W64 (b.Cell.Surf + 300))), (min 20000 (W64 (b.Cell.Core + 500))), b.Cell.Stress⟩ : TCell), b.Dried, b.Grade⟩ : TBoard) s) (fun sv2 => (bif (decide (sv2 ≤ sv)) then (Option.bind (strength_Knots_g (⟨b.Id, b.Log, b.Species, b.Product, b.Box, b.Volume, b.Defects, b.Wane, (⟨(min 20000 (W64 (b.Cell.Surf + 300))), (min 20000 (W64 (b.Cell.Core + 500))), b.Cell.Stress⟩ : TCell), b.Dried, b.Grade⟩ : TBoard)) (fun kv3 => (bif (kv3 == kv) then (Option.bind l41_awake_g (fun av2 => some av2)) else some false))) else some false))))))))))))))))))))))
theorem l41_StrengthOrder_w (b : TBoard) (s : TSpecies) (d : Df) (r : Bool) (h : l41_StrengthOrder_g b s d = some r) : Holds Try.prog 5 [(encTBoard b), (encTSpecies s), (encDf d)] [] (B r) [] := by
  unfold l41_StrengthOrder_g at h
  refine holds_fn Try.func5 rfl Try.ntmps5 rfl rfl rfl ?_
  refine awp_seq ?_
  refine awp_go hmix ?_
  refine go_run' ttok 4 rfl ?_
  refine go_nil nd ?_
  refine then_norm ?_
  refine awp_seq ?_
  refine awp_seq ?_
  refine awp_go hmix ?_
  refine go_run' ttok 2 rfl ?_
  refine go_call fn15 (l41_few_w b s _ rfl) rfl rfl rfl rfl rfl rfl rfl ?_
  refine go_run' ttok 2 rfl ?_
  refine go_gcase rfl rfl rfl (fun g1 => ?_) (fun g1 => ?_)
  · rw [g1]
    replace h := of_bif_t h g1
    refine go_run' ttok 5 rfl ?_
    refine go_nil nd ?_
    refine then_norm ?_
    refine awp_cond rfl (fun tt0 => ?_) (fun h => by cases h)
    clear tt0
    refine awp_seq ?_
    refine awp_go hmix ?_
    obtain ⟨av, hv2, h⟩ := of_obind h
    refine go_call fn17 (l41_awake_w av hv2) rfl rfl rfl rfl rfl rfl rfl ?_
    refine go_run' ttok 1 rfl ?_
    refine go_nil nd ?_
    refine then_norm ?_
    refine awp_ret ?_
    refine then_ret ?_
    have e3 := of_some h
    subst e3
    refine ret_ret ?_
    refine fin0 ttok rfl rfl ?_
    exact (wkP_refl _ rfl)
  · rw [g1]
    replace h := of_bif_f h g1
    refine go_run' ttok 2 rfl ?_
    obtain ⟨rv, hv4, h⟩ := of_obind h
    refine go_call fn16 (r41_Right_w b s rv hv4) rfl rfl rfl rfl rfl rfl rfl ?_
    refine go_run' ttok 2 rfl ?_
    refine go_nil nd ?_
    refine then_norm ?_
    refine awp_cond (b := (!rv)) rfl (fun c5 => ?_) (fun c5 => ?_)
    · replace h := of_bif_t h c5
      refine awp_seq ?_
      refine awp_go hmix ?_
      obtain ⟨av1, hv6, h⟩ := of_obind h
      refine go_call fn17 (l41_awake_w av1 hv6) rfl rfl rfl rfl rfl rfl rfl ?_
      refine go_run' ttok 1 rfl ?_
      refine go_nil nd ?_
      refine then_norm ?_
      refine awp_ret ?_
      refine then_ret ?_
      have e7 := of_some h
      subst e7
      refine ret_ret ?_
      refine fin0 ttok rfl rfl ?_
      exact (wkP_refl _ rfl)
    · replace h := of_bif_f h c5
      refine awp_skip ?_
      refine then_norm ?_
      refine awp_seq ?_
      refine awp_go hmix ?_
      refine go_run' ttok 2 rfl ?_
      obtain ⟨sv, hv8, h⟩ := of_obind h
      refine go_call fn20 (strength_Stiffness_w b s sv hv8) rfl rfl rfl rfl rfl rfl rfl ?_
      refine go_run' ttok 1 rfl ?_
      obtain ⟨kv, hv9, h⟩ := of_obind h
      refine go_call fn18 (strength_Knots_w b kv hv9) rfl rfl rfl rfl rfl rfl rfl ?_
      refine go_run' ttok 2 rfl ?_
      refine go_nil (fun _ => by kernel_rfl) ?_
      refine then_norm ?_
      refine awp_seq ?_
      refine awp_seq ?_
      refine awp_go hmix ?_
      refine go_run' ttok 3 rfl ?_
      refine go_gcase rfl rfl rfl (fun g10 => ?_) (fun g10 => ?_)
      · rw [g10]
        replace h := of_bif_t h g10
        refine go_run' ttok 13 rfl ?_
        refine go_nil nd ?_
        refine then_norm ?_
        refine awp_cond rfl (fun tt0 => ?_) (fun h => by cases h)
        clear tt0
        refine awp_seq ?_
        refine awp_go hmix ?_
        refine go_run' ttok 1 rfl ?_
        refine go_nil nd ?_
        refine then_norm ?_
        refine awp_ret ?_
        refine then_ret ?_
        have e11 := of_some h
        subst e11
        refine ret_ret ?_
        refine fin0 ttok rfl rfl ?_
        exact (wkP_refl _ rfl)
      · rw [g10]
        replace h := of_bif_f h g10
        refine go_run' ttok 6 rfl ?_
        refine go_gcase rfl rfl rfl (fun g12 => ?_) (fun g12 => ?_)
        · rw [g12]
          replace h := of_bif_t h g12
          refine go_run' ttok 7 rfl ?_
          refine go_nil nd ?_
          refine then_norm ?_
          refine awp_cond rfl (fun tt0 => ?_) (fun h => by cases h)
          clear tt0
          refine awp_seq ?_
          refine awp_go hmix ?_
          refine go_run' ttok 1 rfl ?_
          refine go_nil nd ?_
          refine then_norm ?_
          refine awp_ret ?_
          refine then_ret ?_
          have e13 := of_some h
          subst e13
          refine ret_ret ?_
          refine fin0 ttok rfl rfl ?_
          exact (wkP_refl _ rfl)
        · rw [g12]
          replace h := of_bif_f h g12
          refine go_run' ttok 4 rfl ?_
          refine go_gcase rfl rfl rfl (fun g14 => ?_) (fun g14 => ?_)
          · rw [g14]
            replace h := of_bif_t h g14
            refine go_run' ttok 3 rfl ?_
            refine go_nil nd ?_
            refine then_norm ?_
            refine awp_cond rfl (fun tt0 => ?_) (fun h => by cases h)
            clear tt0
            refine awp_seq ?_
            refine awp_go hmix ?_
            refine go_run' ttok 1 rfl ?_
            refine go_nil nd ?_
            refine then_norm ?_
            refine awp_ret ?_
            refine then_ret ?_
            have e15 := of_some h
            subst e15
            refine ret_ret ?_
            refine fin0 ttok rfl rfl ?_
            exact (wkP_refl _ rfl)
          · rw [g14]
            replace h := of_bif_f h g14
            refine go_run' ttok 3 rfl ?_
            refine go_nil nd ?_
            refine then_norm ?_
            refine awp_cond (b := (decide (1000 < kv))) rfl (fun c16 => ?_) (fun c16 => ?_)
            · replace h := of_bif_t h c16
              refine awp_seq ?_
              refine awp_go hmix ?_
              refine go_run' ttok 1 rfl ?_
              refine go_nil nd ?_
              refine then_norm ?_
              refine awp_ret ?_
              refine then_ret ?_
              have e17 := of_some h
              subst e17
              refine ret_ret ?_
              refine fin0 ttok rfl rfl ?_
              exact (wkP_refl _ rfl)
            · replace h := of_bif_f h c16
              refine awp_skip ?_
              refine then_norm ?_
              refine awp_seq ?_
              refine awp_go hmix ?_
              refine go_run' ttok 3 rfl ?_
              refine go_nil nd ?_
              refine then_norm ?_
              refine awp_seq ?_
              refine awp_go hmix ?_
              refine go_run' ttok 3 rfl ?_
              obtain ⟨l, hv18, h⟩ := of_obind h
              refine go_appTS encDf ([] : List Df) b.Defects l hv18 (fun _ => rfl) (fun _ => rfl) (by first | rfl | simp [setI]) ttok rfl rfl rfl rfl rfl rfl rfl rfl rfl rfl rfl rfl rfl rfl rfl ?_
              refine go_run' ttok 2 rfl ?_
              obtain ⟨l1, hv19, h⟩ := of_obind h
              refine go_appT encDf l ([d]) l1 hv19 (fun _ => rfl) (by first | rfl | simp [setI]) (by first | rfl | simp [setI]) ttok rfl rfl rfl rfl rfl rfl rfl rfl rfl rfl rfl rfl rfl rfl rfl rfl rfl ?_
              refine go_run' ttok 2 rfl ?_
              refine go_nil (fun _ => by kernel_rfl) ?_
              refine then_norm ?_
              obtain ⟨y, hx20, h⟩ := of_obind h
              refine awp_seqJ (X := Unit) [3, 4, 7, 8] [3, 4] (fun _ => []) (fun _ => []) (fun w => Sum.inr w = y) rfl rfl ?_ ?_
              · skip
                refine awp_seq ?_
                refine awp_go hmix ?_
                refine go_run' ttok 2 rfl ?_
                obtain ⟨cv, hv22, hx20⟩ := of_obind hx20
                refine go_callL (L := [(50, some ⟨41, 7, l1.map encDf⟩)]) fn26 (r13_Check_w l1 cv hv22) rfl rfl rfl ⟨rfl, List.not_mem_nil, trivial⟩ ⟨(wkP_lend rfl (by first | rfl | simp [setI]) (fun _ => rfl)), trivial⟩ rfl rfl (fun _ => rfl) rfl ?_
                refine go_run' ttok 2 rfl ?_
                refine go_gcase rfl rfl rfl (fun g23 => ?_) (fun g23 => ?_)
                · rw [g23]
                  replace hx20 := of_bif_t hx20 g23
                  refine go_run' ttok 2 rfl ?_
                  obtain ⟨sv1, hv24, hx20⟩ := of_obind hx20
                  refine go_callL (L := [(50, some ⟨41, 7, l1.map encDf⟩)]) fn20 (strength_Stiffness_w (⟨b.Id, b.Log, b.Species, b.Product, b.Box, b.Volume, l1, b.Wane, b.Cell, b.Dried, b.Grade⟩ : TBoard) s sv1 hv24) rfl rfl rfl ⟨rfl, List.not_mem_nil, trivial⟩ ⟨⟨(wkP_refl _ rfl), (wkP_refl _ rfl), (wkP_refl _ rfl), (wkP_refl _ rfl), (wkP_refl _ rfl), (wkP_refl _ rfl), (wkP_refl _ rfl), (wkP_refl _ rfl), (wkP_refl _ rfl), (wkP_refl _ rfl), (wkP_refl _ rfl), (wkP_lend rfl (by first | rfl | simp [setI]) (fun _ => rfl)), (wkP_refl _ rfl), (wkP_refl _ rfl), (wkP_refl _ rfl), (wkP_refl _ rfl), (wkP_refl _ rfl), (wkP_refl _ rfl), trivial⟩, (wkP_refl _ rfl), trivial⟩ rfl rfl (fun _ => rfl) rfl ?_
                  refine go_run' ttok 3 rfl ?_
                  refine go_gcase rfl rfl rfl (fun g25 => ?_) (fun g25 => ?_)
                  · rw [g25]
                    replace hx20 := of_bif_t hx20 g25
                    refine go_run' ttok 17 rfl ?_
                    refine go_nil nd ?_
                    refine then_norm ?_
                    refine awp_cond rfl (fun tt0 => ?_) (fun h => by cases h)
                    clear tt0
                    refine awp_seq ?_
                    refine awp_go hmix ?_
                    refine go_run' ttok 1 rfl ?_
                    refine go_nil nd ?_
                    refine then_norm ?_
                    refine awp_ret ?_
                    obtain ⟨t, hn26, hq⟩ := of_mapl' hx20
                    subst hq
                    have hq := of_inl h
                    replace hq := of_some hq
                    subst hq
                    refine then_ret ?_
                    have e27 := of_some hn26
                    subst e27
                    refine ret_ret ?_
                    refine fin0 ttok rfl rfl ?_
                    exact (wkP_refl _ rfl)
                  · rw [g25]
                    replace hx20 := of_bif_f hx20 g25
                    refine go_run' ttok 1 rfl ?_
                    obtain ⟨kv1, hv28, hx20⟩ := of_obind hx20
                    refine go_callL (L := [(50, some ⟨41, 7, l1.map encDf⟩)]) fn18 (strength_Knots_w (⟨b.Id, b.Log, b.Species, b.Product, b.Box, b.Volume, l1, b.Wane, b.Cell, b.Dried, b.Grade⟩ : TBoard) kv1 hv28) rfl rfl rfl ⟨rfl, List.not_mem_nil, trivial⟩ ⟨⟨(wkP_refl _ rfl), (wkP_refl _ rfl), (wkP_refl _ rfl), (wkP_refl _ rfl), (wkP_refl _ rfl), (wkP_refl _ rfl), (wkP_refl _ rfl), (wkP_refl _ rfl), (wkP_refl _ rfl), (wkP_refl _ rfl), (wkP_refl _ rfl), (wkP_lend rfl (by first | rfl | simp [setI]) (fun _ => rfl)), (wkP_refl _ rfl), (wkP_refl _ rfl), (wkP_refl _ rfl), (wkP_refl _ rfl), (wkP_refl _ rfl), (wkP_refl _ rfl), trivial⟩, trivial⟩ rfl rfl (fun _ => rfl) rfl ?_
                    refine go_run' ttok 4 rfl ?_
                    refine go_gcase rfl rfl rfl (fun g29 => ?_) (fun g29 => ?_)
                    · rw [g29]
                      replace hx20 := of_bif_t hx20 g29
                      refine go_run' ttok 11 rfl ?_
                      refine go_nil nd ?_
                      refine then_norm ?_
                      refine awp_cond rfl (fun tt0 => ?_) (fun h => by cases h)
                      clear tt0
                      refine awp_seq ?_
                      refine awp_go hmix ?_
                      refine go_run' ttok 1 rfl ?_
                      refine go_nil nd ?_
                      refine then_norm ?_
                      refine awp_ret ?_
                      obtain ⟨t1, hn30, hq⟩ := of_mapl' hx20
                      subst hq
                      have hq := of_inl h
                      replace hq := of_some hq
                      subst hq
                      refine then_ret ?_
                      have e31 := of_some hn30
                      subst e31
                      refine ret_ret ?_
                      refine fin0 ttok rfl rfl ?_
                      exact (wkP_refl _ rfl)
                    · rw [g29]
                      replace hx20 := of_bif_f hx20 g29
                      refine go_run' ttok 1 rfl ?_
                      refine go_call fn27 (r13_Knot_w d _ rfl) rfl rfl rfl rfl rfl rfl rfl ?_
                      refine go_run' ttok 2 rfl ?_
                      refine go_gcase rfl rfl rfl (fun g32 => ?_) (fun g32 => ?_)
                      · rw [g32]
                        replace hx20 := of_bif_t hx20 g32
                        refine go_run' ttok 1 rfl ?_
                        obtain ⟨kv2, hv33, hx20⟩ := of_obind hx20
                        refine go_callL (L := [(50, some ⟨41, 7, l1.map encDf⟩)]) fn18 (strength_Knots_w (⟨b.Id, b.Log, b.Species, b.Product, b.Box, b.Volume, l1, b.Wane, b.Cell, b.Dried, b.Grade⟩ : TBoard) kv2 hv33) rfl rfl rfl ⟨rfl, List.not_mem_nil, trivial⟩ ⟨⟨(wkP_refl _ rfl), (wkP_refl _ rfl), (wkP_refl _ rfl), (wkP_refl _ rfl), (wkP_refl _ rfl), (wkP_refl _ rfl), (wkP_refl _ rfl), (wkP_refl _ rfl), (wkP_refl _ rfl), (wkP_refl _ rfl), (wkP_refl _ rfl), (wkP_lend rfl (by first | rfl | simp [setI]) (fun _ => rfl)), (wkP_refl _ rfl), (wkP_refl _ rfl), (wkP_refl _ rfl), (wkP_refl _ rfl), (wkP_refl _ rfl), (wkP_refl _ rfl), trivial⟩, trivial⟩ rfl rfl (fun _ => rfl) rfl ?_
                        refine go_run' ttok 5 rfl ?_
                        refine go_nil nd ?_
                        refine then_norm ?_
                        refine awp_cond (b := (kv2 != kv)) rfl (fun c34 => ?_) (fun c34 => ?_)
                        · replace hx20 := of_bif_t hx20 c34
                          refine awp_seq ?_
                          refine awp_go hmix ?_
                          refine go_run' ttok 1 rfl ?_
                          refine go_nil nd ?_
                          refine then_norm ?_
                          refine awp_ret ?_
                          obtain ⟨t2, hn35, hq⟩ := of_mapl' hx20
                          subst hq
                          have hq := of_inl h
                          replace hq := of_some hq
                          subst hq
                          refine then_ret ?_
                          have e36 := of_some hn35
                          subst e36
                          refine ret_ret ?_
                          refine fin0 ttok rfl rfl ?_
                          exact (wkP_refl _ rfl)
                        · replace hx20 := of_bif_f hx20 c34
                          refine awp_skip ?_
                          have e37 := of_some hx20
                          refine then_norm ⟨rfl, (), [(3, some 3), (4, some 4)], ⟨rfl, rfl, rfl, rfl, rfl, trivial, trivial⟩, e37⟩
                      · rw [g32]
                        replace hx20 := of_bif_f hx20 g32
                        refine go_run' ttok 7 rfl ?_
                        refine go_nil nd ?_
                        refine then_norm ?_
                        refine awp_cond rfl (fun h => by cases h) (fun tt0 => ?_)
                        clear tt0
                        refine awp_skip ?_
                        have e38 := of_some hx20
                        refine then_norm ⟨rfl, (), [(3, some 3), (4, some 4)], ⟨rfl, rfl, rfl, rfl, rfl, trivial, trivial⟩, e38⟩
                · rw [g23]
                  replace hx20 := of_bif_f hx20 g23
                  refine go_run' ttok 23 rfl ?_
                  refine go_nil nd ?_
                  refine then_norm ?_
                  refine awp_cond rfl (fun h => by cases h) (fun tt0 => ?_)
                  clear tt0
                  refine awp_skip ?_
                  have e39 := of_some hx20
                  refine then_norm ⟨rfl, (), [(3, some 3), (4, some 4)], ⟨rfl, rfl, rfl, rfl, rfl, trivial, trivial⟩, e39⟩
              · intro w hw21
                subst hw21
                replace h := of_inr h
                refine awp_seq ?_
                refine awp_go hmix ?_
                refine go_run' ttok 3 rfl ?_
                refine go_nil nd ?_
                refine then_norm ?_
                refine awp_seq ?_
                refine awp_go hmix ?_
                refine go_run' ttok 8 rfl ?_
                refine go_nil nd ?_
                refine then_norm ?_
                refine awp_seq ?_
                refine awp_go hmix ?_
                refine go_run' ttok 8 rfl ?_
                refine go_nil nd ?_
                refine then_norm ?_
                refine awp_seq ?_
                refine awp_go hmix ?_
                refine go_run' ttok 2 rfl ?_
                obtain ⟨sv2, hv40, h⟩ := of_obind h
                refine go_call fn20 (strength_Stiffness_w (⟨b.Id, b.Log, b.Species, b.Product, b.Box, b.Volume, b.Defects, b.Wane, (⟨(min 20000 (W64 (b.Cell.Surf + 300))), (min 20000 (W64 (b.Cell.Core + 500))), b.Cell.Stress⟩ : TCell), b.Dried, b.Grade⟩ : TBoard) s sv2 hv40) rfl rfl rfl rfl rfl rfl rfl ?_
                refine go_run' ttok 3 rfl ?_
                refine go_gcase rfl rfl rfl (fun g41 => ?_) (fun g41 => ?_)
                · rw [g41]
                  replace h := of_bif_t h g41
                  refine go_run' ttok 1 rfl ?_
                  obtain ⟨kv3, hv42, h⟩ := of_obind h
                  refine go_call fn18 (strength_Knots_w (⟨b.Id, b.Log, b.Species, b.Product, b.Box, b.Volume, b.Defects, b.Wane, (⟨(min 20000 (W64 (b.Cell.Surf + 300))), (min 20000 (W64 (b.Cell.Core + 500))), b.Cell.Stress⟩ : TCell), b.Dried, b.Grade⟩ : TBoard) kv3 hv42) rfl rfl rfl rfl rfl rfl rfl ?_
                  refine go_run' ttok 4 rfl ?_
                  refine go_gcase rfl rfl rfl (fun g43 => ?_) (fun g43 => ?_)
                  · rw [g43]
                    replace h := of_bif_t h g43
                    obtain ⟨av2, hv44, h⟩ := of_obind h
                    refine go_call fn17 (l41_awake_w av2 hv44) rfl rfl rfl rfl rfl rfl rfl ?_
                    refine go_run' ttok 2 rfl ?_
                    refine go_nil nd ?_
                    refine then_norm ?_
                    refine awp_ret ?_
                    have e45 := of_some h
                    subst e45
                    refine ret_ret ?_
                    refine fin0 ttok rfl rfl ?_
                    exact (wkP_refl _ rfl)
                  · rw [g43]
                    replace h := of_bif_f h g43
                    refine go_run' ttok 3 rfl ?_
                    refine go_nil nd ?_
                    refine then_norm ?_
                    refine awp_ret ?_
                    have e46 := of_some h
                    subst e46
                    refine ret_ret ?_
                    refine fin0 ttok rfl rfl ?_
                    exact (wkP_refl _ rfl)
                · rw [g41]
                  replace h := of_bif_f h g41
                  refine go_run' ttok 9 rfl ?_
                  refine go_nil nd ?_
                  refine then_norm ?_
                  refine awp_ret ?_
                  have e47 := of_some h
                  subst e47
                  refine ret_ret ?_
                  refine fin0 ttok rfl rfl ?_
                  exact (wkP_refl _ rfl)

/-- sawmill/sawmilllaw41.StrengthMoved -/
noncomputable def l41_StrengthMoved_g (b : TBoard) (s : TSpecies) (other : TBoard) : Option Bool :=
  (bif (!(l41_few_g b s)) then (Option.bind l41_awake_g (fun av => some av)) else (Option.bind (r41_Right_g b s) (fun rv => (bif (!rv) then (Option.bind l41_awake_g (fun av1 => some av1)) else (Option.bind (strength_Knots_g (⟨other.Id, other.Log, other.Species, other.Product, (⟨(⟨0, (r03_Len_g b.Box.x)⟩ : Sp), (⟨0, (r03_Len_g b.Box.y)⟩ : Sp), other.Box.z⟩ : Bx), other.Volume, b.Defects, other.Wane, b.Cell, other.Dried, other.Grade⟩ : TBoard)) (fun kv => (Option.bind (strength_Knots_g b) (fun kv1 => (bif (kv == kv1) then (Option.bind (strength_Stiffness_g (⟨other.Id, other.Log, other.Species, other.Product, (⟨(⟨0, (r03_Len_g b.Box.x)⟩ : Sp), (⟨0, (r03_Len_g b.Box.y)⟩ : Sp), other.Box.z⟩ : Bx), other.Volume, b.Defects, other.Wane, b.Cell, other.Dried, other.Grade⟩ : TBoard) s) (fun sv => (Option.bind (strength_Stiffness_g b s) (fun sv1 => (bif (sv == sv1) then (Option.bind (strength_Knots_g (⟨other.Id, other.Log, other.Species, other.Product, (⟨(⟨0, (r03_Len_g b.Box.y)⟩ : Sp), (⟨0, (r03_Len_g b.Box.x)⟩ : Sp), other.Box.z⟩ : Bx), other.Volume, b.Defects, other.Wane, b.Cell, other.Dried, other.Grade⟩ : TBoard)) (fun kv2 => (Option.bind (strength_Knots_g b) (fun kv3 => (bif (kv2 == kv3) then (Option.bind l41_awake_g (fun av2 => some av2)) else some false))))) else some false))))) else some false)))))))))
theorem l41_StrengthMoved_w (b : TBoard) (s : TSpecies) (other : TBoard) (r : Bool) (h : l41_StrengthMoved_g b s other = some r) : Holds Try.prog 6 [(encTBoard b), (encTSpecies s), (encTBoard other)] [] (B r) [] := by
  unfold l41_StrengthMoved_g at h
  refine holds_fn Try.func6 rfl Try.ntmps6 rfl rfl rfl ?_
  refine awp_seq ?_
  refine awp_go hmix ?_
  refine go_run' ttok 4 rfl ?_
  refine go_nil nd ?_
  refine then_norm ?_
  refine awp_seq ?_
  refine awp_seq ?_
  refine awp_go hmix ?_
  refine go_run' ttok 2 rfl ?_
  refine go_call fn15 (l41_few_w b s _ rfl) rfl rfl rfl rfl rfl rfl rfl ?_
  refine go_run' ttok 2 rfl ?_
  refine go_gcase rfl rfl rfl (fun g1 => ?_) (fun g1 => ?_)
  · rw [g1]
    replace h := of_bif_t h g1
    refine go_run' ttok 5 rfl ?_
    refine go_nil nd ?_
    refine then_norm ?_
    refine awp_cond rfl (fun tt0 => ?_) (fun h => by cases h)
    clear tt0
    refine awp_seq ?_
    refine awp_go hmix ?_
    obtain ⟨av, hv2, h⟩ := of_obind h
    refine go_call fn17 (l41_awake_w av hv2) rfl rfl rfl rfl rfl rfl rfl ?_
    refine go_run' ttok 1 rfl ?_
    refine go_nil nd ?_
    refine then_norm ?_
    refine awp_ret ?_
    refine then_ret ?_
    have e3 := of_some h
    subst e3
    refine ret_ret ?_
    refine fin0 ttok rfl rfl ?_
    exact (wkP_refl _ rfl)
  · rw [g1]
    replace h := of_bif_f h g1
    refine go_run' ttok 2 rfl ?_
    obtain ⟨rv, hv4, h⟩ := of_obind h
    refine go_call fn16 (r41_Right_w b s rv hv4) rfl rfl rfl rfl rfl rfl rfl ?_
    refine go_run' ttok 2 rfl ?_
    refine go_nil nd ?_
    refine then_norm ?_
    refine awp_cond (b := (!rv)) rfl (fun c5 => ?_) (fun c5 => ?_)
    · replace h := of_bif_t h c5
      refine awp_seq ?_
      refine awp_go hmix ?_
      obtain ⟨av1, hv6, h⟩ := of_obind h
      refine go_call fn17 (l41_awake_w av1 hv6) rfl rfl rfl rfl rfl rfl rfl ?_
      refine go_run' ttok 1 rfl ?_
      refine go_nil nd ?_
      refine then_norm ?_
      refine awp_ret ?_
      refine then_ret ?_
      have e7 := of_some h
      subst e7
      refine ret_ret ?_
      refine fin0 ttok rfl rfl ?_
      exact (wkP_refl _ rfl)
    · replace h := of_bif_f h c5
      refine awp_skip ?_
      refine then_norm ?_
      refine awp_seq ?_
      refine awp_go hmix ?_
      refine go_run' ttok 3 rfl ?_
      refine go_nil nd ?_
      refine then_norm ?_
      refine awp_seq ?_
      refine awp_go hmix ?_
      refine go_run' ttok 3 rfl ?_
      refine go_call fn28 (r03_Len_w b.Box.x _ rfl) rfl rfl rfl rfl rfl rfl rfl ?_
      refine go_run' ttok 4 rfl ?_
      refine go_call fn28 (r03_Len_w b.Box.y _ rfl) rfl rfl rfl rfl rfl rfl rfl ?_
      refine go_run' ttok 7 rfl ?_
      refine go_nil (fun _ => by kernel_rfl) ?_
      refine then_norm ?_
      refine awp_seq ?_
      refine awp_go hmix ?_
      refine go_run' ttok 8 rfl ?_
      refine go_nil (fun _ => by kernel_rfl) ?_
      refine then_norm ?_
      refine awp_seq ?_
      refine awp_go hmix ?_
      refine go_run' ttok 3 rfl ?_
      refine go_nil nd ?_
      refine then_norm ?_
      refine awp_seq ?_
      refine awp_go hmix ?_
      refine go_run' ttok 12 rfl ?_
      refine go_nil (fun _ => by kernel_rfl) ?_
      refine then_norm ?_
      refine awp_seq ?_
      refine awp_go hmix ?_
      refine go_run' ttok 1 rfl ?_
      obtain ⟨kv, hv8, h⟩ := of_obind h
      refine go_call fn18 (strength_Knots_w (⟨other.Id, other.Log, other.Species, other.Product, (⟨(⟨0, (r03_Len_g b.Box.x)⟩ : Sp), (⟨0, (r03_Len_g b.Box.y)⟩ : Sp), other.Box.z⟩ : Bx), other.Volume, b.Defects, other.Wane, b.Cell, other.Dried, other.Grade⟩ : TBoard) kv hv8) rfl rfl rfl rfl rfl rfl rfl ?_
      refine go_run' ttok 1 rfl ?_
      obtain ⟨kv1, hv9, h⟩ := of_obind h
      refine go_call fn18 (strength_Knots_w b kv1 hv9) rfl rfl rfl rfl rfl rfl rfl ?_
      refine go_run' ttok 2 rfl ?_
      refine go_gcase rfl rfl rfl (fun g10 => ?_) (fun g10 => ?_)
      · rw [g10]
        replace h := of_bif_t h g10
        refine go_run' ttok 2 rfl ?_
        obtain ⟨sv, hv11, h⟩ := of_obind h
        refine go_call fn20 (strength_Stiffness_w (⟨other.Id, other.Log, other.Species, other.Product, (⟨(⟨0, (r03_Len_g b.Box.x)⟩ : Sp), (⟨0, (r03_Len_g b.Box.y)⟩ : Sp), other.Box.z⟩ : Bx), other.Volume, b.Defects, other.Wane, b.Cell, other.Dried, other.Grade⟩ : TBoard) s sv hv11) rfl rfl rfl rfl rfl rfl rfl ?_
        refine go_run' ttok 2 rfl ?_
        obtain ⟨sv1, hv12, h⟩ := of_obind h
        refine go_call fn20 (strength_Stiffness_w b s sv1 hv12) rfl rfl rfl rfl rfl rfl rfl ?_
        refine go_run' ttok 3 rfl ?_
        refine go_gcase rfl rfl rfl (fun g13 => ?_) (fun g13 => ?_)
        · rw [g13]
          replace h := of_bif_t h g13
          refine go_run' ttok 1 rfl ?_
          obtain ⟨kv2, hv14, h⟩ := of_obind h
          refine go_call fn18 (strength_Knots_w (⟨other.Id, other.Log, other.Species, other.Product, (⟨(⟨0, (r03_Len_g b.Box.y)⟩ : Sp), (⟨0, (r03_Len_g b.Box.x)⟩ : Sp), other.Box.z⟩ : Bx), other.Volume, b.Defects, other.Wane, b.Cell, other.Dried, other.Grade⟩ : TBoard) kv2 hv14) rfl rfl rfl rfl rfl rfl rfl ?_
          refine go_run' ttok 1 rfl ?_
          obtain ⟨kv3, hv15, h⟩ := of_obind h
          refine go_call fn18 (strength_Knots_w b kv3 hv15) rfl rfl rfl rfl rfl rfl rfl ?_
          refine go_run' ttok 3 rfl ?_
          refine go_gcase rfl rfl rfl (fun g16 => ?_) (fun g16 => ?_)
          · rw [g16]
            replace h := of_bif_t h g16
            obtain ⟨av2, hv17, h⟩ := of_obind h
            refine go_call fn17 (l41_awake_w av2 hv17) rfl rfl rfl rfl rfl rfl rfl ?_
            refine go_run' ttok 2 rfl ?_
            refine go_nil (fun _ => by kernel_rfl) ?_
            refine then_norm ?_
            refine awp_ret ?_
            have e18 := of_some h
            subst e18
            refine ret_ret ?_
            refine fin0 ttok rfl rfl ?_
            exact (wkP_refl _ rfl)
          · rw [g16]
            replace h := of_bif_f h g16
            refine go_run' ttok 3 rfl ?_
            refine go_nil (fun _ => by kernel_rfl) ?_
            refine then_norm ?_
            refine awp_ret ?_
            have e19 := of_some h
            subst e19
            refine ret_ret ?_
            refine fin0 ttok rfl rfl ?_
            exact (wkP_refl _ rfl)
        · rw [g13]
          replace h := of_bif_f h g13
          refine go_run' ttok 10 rfl ?_
          refine go_nil (fun _ => by kernel_rfl) ?_
          refine then_norm ?_
          refine awp_ret ?_
          have e20 := of_some h
          subst e20
          refine ret_ret ?_
          refine fin0 ttok rfl rfl ?_
          exact (wkP_refl _ rfl)
      · rw [g10]
        replace h := of_bif_f h g10
        refine go_run' ttok 19 rfl ?_
        refine go_nil (fun _ => by kernel_rfl) ?_
        refine then_norm ?_
        refine awp_ret ?_
        have e21 := of_some h
        subst e21
        refine ret_ret ?_
        refine fin0 ttok rfl rfl ?_
        exact (wkP_refl _ rfl)

/-- sawmill/sawmilllaw41.StrengthRanks -/
noncomputable def l41_StrengthRanks_g (a : Int) (b : Int) : Option Bool :=
  (Option.bind (strength_Class_g (min a b)) (fun cv => (Option.bind (strength_Class_g (max a b)) (fun cv1 => (Option.bind ((bif (decide (cv < 0)) then some (Sum.inl false) else (bif (decide (4 < cv)) then some (Sum.inl false) else (bif (decide (cv1 < 0)) then some (Sum.inl false) else (bif (decide (4 < cv1)) then some (Sum.inl false) else (bif (cv != 0) then (bif (cv1 == 0) then some (Sum.inl false) else (bif (decide (cv < cv1)) then some (Sum.inl false) else some (Sum.inr ()))) else some (Sum.inr ())))))) : Option (Bool ⊕ Unit)) (Sum.elim (fun q => some q) (fun _ => (bif ((cv == cv1) == (bEq (strength_Name_g cv) (strength_Name_g cv1))) then (bif ((cv == 0) == (bEq (strength_Name_g cv) (⟨#[]⟩ : ByteArray))) then (Option.bind l41_awake_g (fun av => some av)) else some false) else some false))))))))
theorem l41_StrengthRanks_w (a : Int) (b : Int) (r : Bool) (h : l41_StrengthRanks_g a b = some r) : Holds Try.prog 7 [(I a), (I b)] [] (B r) [] := by
  unfold l41_StrengthRanks_g at h
  refine holds_fn Try.func7 rfl Try.ntmps7 rfl rfl rfl ?_
  refine awp_seq ?_
  refine awp_go hmix ?_
  refine go_run' ttok 1 rfl ?_
  refine go_nil nd ?_
  refine then_norm ?_
  refine awp_seq ?_
  refine awp_go hmix ?_
  refine go_run' ttok 3 rfl ?_
  obtain ⟨cv, hv1, h⟩ := of_obind h
  refine go_call fn22 (strength_Class_w (min a b) cv hv1) rfl rfl rfl rfl rfl rfl rfl ?_
  refine go_run' ttok 3 rfl ?_
  obtain ⟨cv1, hv2, h⟩ := of_obind h
  refine go_call fn22 (strength_Class_w (max a b) cv1 hv2) rfl rfl rfl rfl rfl rfl rfl ?_
  refine go_run' ttok 2 rfl ?_
  refine go_nil nd ?_
  refine then_norm ?_
  obtain ⟨y, hx3, h⟩ := of_obind h
  refine awp_seqJ (X := Unit) [5, 6] [] (fun _ => []) (fun _ => []) (fun w => Sum.inr w = y) rfl rfl ?_ ?_
  · skip
    refine awp_seq ?_
    refine awp_go hmix ?_
    refine go_run' ttok 3 rfl ?_
    refine go_gcase rfl rfl rfl (fun g5 => ?_) (fun g5 => ?_)
    · rw [g5]
      replace hx3 := of_bif_t hx3 g5
      refine go_run' ttok 24 rfl ?_
      refine go_nil nd ?_
      refine then_norm ?_
      refine awp_cond rfl (fun tt0 => ?_) (fun h => by cases h)
      clear tt0
      refine awp_seq ?_
      refine awp_go hmix ?_
      refine go_run' ttok 1 rfl ?_
      refine go_nil nd ?_
      refine then_norm ?_
      refine awp_ret ?_
      obtain ⟨t, hn6, hq⟩ := of_mapl' hx3
      subst hq
      have hq := of_inl h
      replace hq := of_some hq
      subst hq
      refine then_ret ?_
      have e7 := of_some hn6
      subst e7
      refine ret_ret ?_
      refine fin0 ttok rfl rfl ?_
      exact (wkP_refl _ rfl)
    · rw [g5]
      replace hx3 := of_bif_f hx3 g5
      refine go_run' ttok 4 rfl ?_
      refine go_gcase rfl rfl rfl (fun g8 => ?_) (fun g8 => ?_)
      · rw [g8]
        replace hx3 := of_bif_t hx3 g8
        refine go_run' ttok 20 rfl ?_
        refine go_nil nd ?_
        refine then_norm ?_
        refine awp_cond rfl (fun tt0 => ?_) (fun h => by cases h)
        clear tt0
        refine awp_seq ?_
        refine awp_go hmix ?_
        refine go_run' ttok 1 rfl ?_
        refine go_nil nd ?_
        refine then_norm ?_
        refine awp_ret ?_
        obtain ⟨t1, hn9, hq⟩ := of_mapl' hx3
        subst hq
        have hq := of_inl h
        replace hq := of_some hq
        subst hq
        refine then_ret ?_
        have e10 := of_some hn9
        subst e10
        refine ret_ret ?_
        refine fin0 ttok rfl rfl ?_
        exact (wkP_refl _ rfl)
      · rw [g8]
        replace hx3 := of_bif_f hx3 g8
        refine go_run' ttok 4 rfl ?_
        refine go_gcase rfl rfl rfl (fun g11 => ?_) (fun g11 => ?_)
        · rw [g11]
          replace hx3 := of_bif_t hx3 g11
          refine go_run' ttok 16 rfl ?_
          refine go_nil nd ?_
          refine then_norm ?_
          refine awp_cond rfl (fun tt0 => ?_) (fun h => by cases h)
          clear tt0
          refine awp_seq ?_
          refine awp_go hmix ?_
          refine go_run' ttok 1 rfl ?_
          refine go_nil nd ?_
          refine then_norm ?_
          refine awp_ret ?_
          obtain ⟨t2, hn12, hq⟩ := of_mapl' hx3
          subst hq
          have hq := of_inl h
          replace hq := of_some hq
          subst hq
          refine then_ret ?_
          have e13 := of_some hn12
          subst e13
          refine ret_ret ?_
          refine fin0 ttok rfl rfl ?_
          exact (wkP_refl _ rfl)
        · rw [g11]
          replace hx3 := of_bif_f hx3 g11
          refine go_run' ttok 4 rfl ?_
          refine go_gcase rfl rfl rfl (fun g14 => ?_) (fun g14 => ?_)
          · rw [g14]
            replace hx3 := of_bif_t hx3 g14
            refine go_run' ttok 12 rfl ?_
            refine go_nil nd ?_
            refine then_norm ?_
            refine awp_cond rfl (fun tt0 => ?_) (fun h => by cases h)
            clear tt0
            refine awp_seq ?_
            refine awp_go hmix ?_
            refine go_run' ttok 1 rfl ?_
            refine go_nil nd ?_
            refine then_norm ?_
            refine awp_ret ?_
            obtain ⟨t3, hn15, hq⟩ := of_mapl' hx3
            subst hq
            have hq := of_inl h
            replace hq := of_some hq
            subst hq
            refine then_ret ?_
            have e16 := of_some hn15
            subst e16
            refine ret_ret ?_
            refine fin0 ttok rfl rfl ?_
            exact (wkP_refl _ rfl)
          · rw [g14]
            replace hx3 := of_bif_f hx3 g14
            refine go_run' ttok 3 rfl ?_
            refine go_gcase rfl rfl rfl (fun g17 => ?_) (fun g17 => ?_)
            · rw [g17]
              replace hx3 := of_bif_t hx3 g17
              refine go_run' ttok 3 rfl ?_
              refine go_gcase rfl rfl rfl (fun g18 => ?_) (fun g18 => ?_)
              · rw [g18]
                replace hx3 := of_bif_t hx3 g18
                refine go_run' ttok 6 rfl ?_
                refine go_nil nd ?_
                refine then_norm ?_
                refine awp_cond rfl (fun tt0 => ?_) (fun h => by cases h)
                clear tt0
                refine awp_seq ?_
                refine awp_go hmix ?_
                refine go_run' ttok 1 rfl ?_
                refine go_nil nd ?_
                refine then_norm ?_
                refine awp_ret ?_
                obtain ⟨t4, hn19, hq⟩ := of_mapl' hx3
                subst hq
                have hq := of_inl h
                replace hq := of_some hq
                subst hq
                refine then_ret ?_
                have e20 := of_some hn19
                subst e20
                refine ret_ret ?_
                refine fin0 ttok rfl rfl ?_
                exact (wkP_refl _ rfl)
              · rw [g18]
                replace hx3 := of_bif_f hx3 g18
                refine go_run' ttok 6 rfl ?_
                refine go_nil nd ?_
                refine then_norm ?_
                refine awp_cond (b := (decide (cv < cv1))) rfl (fun c21 => ?_) (fun c21 => ?_)
                · replace hx3 := of_bif_t hx3 c21
                  refine awp_seq ?_
                  refine awp_go hmix ?_
                  refine go_run' ttok 1 rfl ?_
                  refine go_nil nd ?_
                  refine then_norm ?_
                  refine awp_ret ?_
                  obtain ⟨t5, hn22, hq⟩ := of_mapl' hx3
                  subst hq
                  have hq := of_inl h
                  replace hq := of_some hq
                  subst hq
                  refine then_ret ?_
                  have e23 := of_some hn22
                  subst e23
                  refine ret_ret ?_
                  refine fin0 ttok rfl rfl ?_
                  exact (wkP_refl _ rfl)
                · replace hx3 := of_bif_f hx3 c21
                  refine awp_skip ?_
                  have e24 := of_some hx3
                  refine then_norm ⟨rfl, (), [], ⟨rfl, rfl, rfl, rfl, rfl, trivial, trivial⟩, e24⟩
            · rw [g17]
              replace hx3 := of_bif_f hx3 g17
              refine go_run' ttok 9 rfl ?_
              refine go_nil nd ?_
              refine then_norm ?_
              refine awp_cond rfl (fun h => by cases h) (fun tt0 => ?_)
              clear tt0
              refine awp_skip ?_
              have e25 := of_some hx3
              refine then_norm ⟨rfl, (), [], ⟨rfl, rfl, rfl, rfl, rfl, trivial, trivial⟩, e25⟩
  · intro w hw4
    subst hw4
    replace h := of_inr h
    refine awp_seq ?_
    refine awp_go hmix ?_
    refine go_run' ttok 4 rfl ?_
    refine go_call fn24 (strength_Name_w cv _ rfl) rfl rfl rfl rfl rfl rfl rfl ?_
    refine go_run' ttok 1 rfl ?_
    refine go_call fn24 (strength_Name_w cv1 _ rfl) rfl rfl rfl rfl rfl rfl rfl ?_
    refine go_eqlS (strength_Name_g cv) (strength_Name_g cv1) rfl rfl rfl rfl rfl ?_
    refine go_step rfl (as_eqBool rfl (ttok _ _ rfl) rfl rfl rfl) rfl rfl rfl ?_
    refine go_run' ttok 1 rfl ?_
    refine go_gcase rfl rfl rfl (fun g26 => ?_) (fun g26 => ?_)
    · rw [g26]
      replace h := of_bif_t h g26
      refine go_run' ttok 3 rfl ?_
      refine go_call fn24 (strength_Name_w cv _ rfl) rfl rfl rfl rfl rfl rfl rfl ?_
      refine go_eqlS (strength_Name_g cv) (⟨#[]⟩ : ByteArray) rfl rfl rfl rfl rfl ?_
      refine go_step rfl (as_eqBool rfl (ttok _ _ rfl) rfl rfl rfl) rfl rfl rfl ?_
      refine go_run' ttok 2 rfl ?_
      refine go_gcase rfl rfl rfl (fun g27 => ?_) (fun g27 => ?_)
      · rw [g27]
        replace h := of_bif_t h g27
        obtain ⟨av, hv28, h⟩ := of_obind h
        refine go_call fn17 (l41_awake_w av hv28) rfl rfl rfl rfl rfl rfl rfl ?_
        refine go_run' ttok 2 rfl ?_
        refine go_nil nd ?_
        refine then_norm ?_
        refine awp_ret ?_
        have e29 := of_some h
        subst e29
        refine ret_ret ?_
        refine fin0 ttok rfl rfl ?_
        exact (wkP_refl _ rfl)
      · rw [g27]
        replace h := of_bif_f h g27
        refine go_run' ttok 3 rfl ?_
        refine go_nil nd ?_
        refine then_norm ?_
        refine awp_ret ?_
        have e30 := of_some h
        subst e30
        refine ret_ret ?_
        refine fin0 ttok rfl rfl ?_
        exact (wkP_refl _ rfl)
    · rw [g26]
      replace h := of_bif_f h g26
      refine go_run' ttok 11 rfl ?_
      refine go_nil nd ?_
      refine then_norm ?_
      refine awp_ret ?_
      have e31 := of_some h
      subst e31
      refine ret_ret ?_
      refine fin0 ttok rfl rfl ?_
      exact (wkP_refl _ rfl)

/-- sawmill/sawmilllaw13.few -/
noncomputable def l13_few_g (l : (List Df)) : Bool :=
  (decide (((l.length : Nat) : Int) ≤ 100))
theorem l13_few_w (l : (List Df)) (r : Bool) (h : l13_few_g l = r) : Holds Try.prog 29 [((encL encDf) l)] [] (B r) [] := by
  unfold l13_few_g at h
  refine holds_fn Try.func29 rfl Try.ntmps29 rfl rfl rfl ?_
  refine awp_seq ?_
  refine awp_go hmix ?_
  refine go_run' ttok 1 rfl ?_
  refine go_nil nd ?_
  refine then_norm ?_
  refine awp_seq ?_
  refine awp_go hmix ?_
  refine go_run' ttok 1 rfl ?_
  refine go_lenT encDf l ttok rfl rfl rfl rfl rfl rfl ?_
  refine go_run' ttok 2 rfl ?_
  refine go_nil nd ?_
  refine then_norm ?_
  refine awp_ret ?_
  have e1 := h
  subst e1
  refine ret_ret ?_
  refine fin0 ttok rfl rfl ?_
  exact (wkP_refl _ rfl)

/-- sawmill/sawmilllaw13.box -/
noncomputable def l13_box_g (x1 : Int) (x2 : Int) (y1 : Int) (y2 : Int) (z1 : Int) (z2 : Int) : Bx :=
  (⟨(⟨x1, x2⟩ : Sp), (⟨y1, y2⟩ : Sp), (⟨z1, z2⟩ : Sp)⟩ : Bx)
theorem l13_box_w (x1 : Int) (x2 : Int) (y1 : Int) (y2 : Int) (z1 : Int) (z2 : Int) (r : Bx) (h : l13_box_g x1 x2 y1 y2 z1 z2 = r) : Holds Try.prog 48 [(I x1), (I x2), (I y1), (I y2), (I z1), (I z2)] [] (encBx r) [] := by
  unfold l13_box_g at h
  refine holds_fn Try.func48 rfl Try.ntmps48 rfl rfl rfl ?_
  refine awp_seq ?_
  refine awp_go hmix ?_
  refine go_run' ttok 1 rfl ?_
  refine go_nil nd ?_
  refine then_norm ?_
  refine awp_seq ?_
  refine awp_go hmix ?_
  refine go_run' ttok 11 rfl ?_
  refine go_nil nd ?_
  refine then_norm ?_
  refine awp_ret ?_
  have e1 := h
  subst e1
  refine ret_ret ?_
  refine fin0 ttok rfl rfl ?_
  exact (wkP_refl _ rfl)

/-- sawmill/defect.meet -/
noncomputable def defect_meet_g (a : Bx) (b : Bx) : (Bx × Bool) :=
  (letB (span_Meet_g a.x b.x) (fun mv => (letB (span_Meet_g a.y b.y) (fun mv1 => (letB (span_Meet_g a.z b.z) (fun mv2 => (bif (defect_isEmpty_g mv) then ((⟨(⟨0, 0⟩ : Sp), (⟨0, 0⟩ : Sp), (⟨0, 0⟩ : Sp)⟩ : Bx), false) else (bif (defect_isEmpty_g mv1) then ((⟨(⟨0, 0⟩ : Sp), (⟨0, 0⟩ : Sp), (⟨0, 0⟩ : Sp)⟩ : Bx), false) else (bif (defect_isEmpty_g mv2) then ((⟨(⟨0, 0⟩ : Sp), (⟨0, 0⟩ : Sp), (⟨0, 0⟩ : Sp)⟩ : Bx), false) else ((⟨mv, mv1, mv2⟩ : Bx), true))))))))))
theorem defect_meet_w (a : Bx) (b : Bx) (r : (Bx × Bool)) (h : defect_meet_g a b = r) : Holds Try.prog 62 [(encBx a), (encBx b)] [] (.tup [(encBx r.1), (B r.2)]) [] := by
  unfold defect_meet_g at h
  refine holds_fn Try.func62 rfl Try.ntmps62 rfl rfl rfl ?_
  refine awp_seq ?_
  refine awp_go hmix ?_
  refine go_run' ttok 4 rfl ?_
  refine go_nil nd ?_
  refine then_norm ?_
  refine awp_seq ?_
  refine awp_go hmix ?_
  refine go_run' ttok 4 rfl ?_
  obtain ⟨mv, hv1, h⟩ := of_let h
  refine go_call fn70 (span_Meet_w a.x b.x mv hv1) rfl rfl rfl rfl rfl rfl rfl ?_
  refine go_run' ttok 4 rfl ?_
  obtain ⟨mv1, hv2, h⟩ := of_let h
  refine go_call fn70 (span_Meet_w a.y b.y mv1 hv2) rfl rfl rfl rfl rfl rfl rfl ?_
  refine go_run' ttok 4 rfl ?_
  obtain ⟨mv2, hv3, h⟩ := of_let h
  refine go_call fn70 (span_Meet_w a.z b.z mv2 hv3) rfl rfl rfl rfl rfl rfl rfl ?_
  refine go_run' ttok 3 rfl ?_
  refine go_nil (fun _ => by kernel_rfl) ?_
  refine then_norm ?_
  refine awp_seq ?_
  refine awp_seq ?_
  refine awp_go hmix ?_
  refine go_run' ttok 2 rfl ?_
  refine go_call fn69 (defect_isEmpty_w mv _ rfl) rfl rfl rfl rfl rfl rfl rfl ?_
  refine go_run' ttok 1 rfl ?_
  refine go_gcase rfl rfl rfl (fun g4 => ?_) (fun g4 => ?_)
  · rw [g4]
    replace h := of_bif_t h g4
    refine go_run' ttok 9 rfl ?_
    refine go_nil nd ?_
    refine then_norm ?_
    refine awp_cond rfl (fun tt0 => ?_) (fun h => by cases h)
    clear tt0
    refine awp_seq ?_
    refine awp_go hmix ?_
    refine go_run' ttok 3 rfl ?_
    refine go_nil nd ?_
    refine then_norm ?_
    refine awp_ret ?_
    refine then_ret ?_
    have e5 := h
    subst e5
    refine ret_ret ?_
    refine fin0 ttok rfl rfl ?_
    exact wkP_refl _ rfl
  · rw [g4]
    replace h := of_bif_f h g4
    refine go_run' ttok 2 rfl ?_
    refine go_call fn69 (defect_isEmpty_w mv1 _ rfl) rfl rfl rfl rfl rfl rfl rfl ?_
    refine go_run' ttok 2 rfl ?_
    refine go_gcase rfl rfl rfl (fun g6 => ?_) (fun g6 => ?_)
    · rw [g6]
      replace h := of_bif_t h g6
      refine go_run' ttok 4 rfl ?_
      refine go_nil nd ?_
      refine then_norm ?_
      refine awp_cond rfl (fun tt0 => ?_) (fun h => by cases h)
      clear tt0
      refine awp_seq ?_
      refine awp_go hmix ?_
      refine go_run' ttok 3 rfl ?_
      refine go_nil nd ?_
      refine then_norm ?_
      refine awp_ret ?_
      refine then_ret ?_
      have e7 := h
      subst e7
      refine ret_ret ?_
      refine fin0 ttok rfl rfl ?_
      exact wkP_refl _ rfl
    · rw [g6]
      replace h := of_bif_f h g6
      refine go_run' ttok 2 rfl ?_
      refine go_call fn69 (defect_isEmpty_w mv2 _ rfl) rfl rfl rfl rfl rfl rfl rfl ?_
      refine go_run' ttok 1 rfl ?_
      refine go_nil nd ?_
      refine then_norm ?_
      refine awp_cond (b := (defect_isEmpty_g mv2)) rfl (fun c8 => ?_) (fun c8 => ?_)
      · replace h := of_bif_t h c8
        refine awp_seq ?_
        refine awp_go hmix ?_
        refine go_run' ttok 3 rfl ?_
        refine go_nil nd ?_
        refine then_norm ?_
        refine awp_ret ?_
        refine then_ret ?_
        have e9 := h
        subst e9
        refine ret_ret ?_
        refine fin0 ttok rfl rfl ?_
        exact wkP_refl _ rfl
      · replace h := of_bif_f h c8
        refine awp_skip ?_
        refine then_norm ?_
        refine awp_seq ?_
        refine awp_go hmix ?_
        refine go_run' ttok 3 rfl ?_
        refine go_nil nd ?_
        refine then_norm ?_
        refine awp_ret ?_
        have e10 := h
        subst e10
        refine ret_ret ?_
        refine fin0 ttok rfl rfl ?_
        exact wkP_refl _ rfl

/-- sawmill/defect.Touches -/
noncomputable def defect_Touches_g (d : Df) (b : Bx) : Bool :=
  (letB (defect_meet_g d.b b) (fun mv => mv.2))
theorem defect_Touches_w (d : Df) (b : Bx) (r : Bool) (h : defect_Touches_g d b = r) : Holds Try.prog 38 [(encDf d), (encBx b)] [] (B r) [] := by
  unfold defect_Touches_g at h
  refine holds_fn Try.func38 rfl Try.ntmps38 rfl rfl rfl ?_
  refine awp_seq ?_
  refine awp_go hmix ?_
  refine go_run' ttok 3 rfl ?_
  refine go_nil nd ?_
  refine then_norm ?_
  refine awp_seq ?_
  refine awp_go hmix ?_
  refine go_run' ttok 3 rfl ?_
  obtain ⟨mv, hv1, h⟩ := of_let h
  refine go_call fn62 (defect_meet_w d.b b mv hv1) rfl rfl rfl rfl rfl rfl rfl ?_
  refine go_run' ttok 6 rfl ?_
  refine go_nil nd ?_
  refine then_norm ?_
  refine awp_seq ?_
  refine awp_go hmix ?_
  refine go_run' ttok 2 rfl ?_
  refine go_nil nd ?_
  refine then_norm ?_
  refine awp_ret ?_
  have e2 := h
  subst e2
  refine ret_ret ?_
  refine fin0 ttok rfl rfl ?_
  exact (wkP_refl _ rfl)

/-- sawmill/defect.back -/
noncomputable def defect_back_g (s : Sp) (vat : Int) : Sp :=
  (⟨(W64 (s.a - vat)), (W64 (s.b - vat))⟩ : Sp)
theorem defect_back_w (s : Sp) (vat : Int) (r : Sp) (h : defect_back_g s vat = r) : Holds Try.prog 64 [(encSp s), (I vat)] [] (encSp r) [] := by
  unfold defect_back_g at h
  refine holds_fn Try.func64 rfl Try.ntmps64 rfl rfl rfl ?_
  refine awp_seq ?_
  refine awp_go hmix ?_
  refine go_run' ttok 2 rfl ?_
  refine go_nil nd ?_
  refine then_norm ?_
  refine awp_seq ?_
  refine awp_go hmix ?_
  refine go_run' ttok 10 rfl ?_
  refine go_nil nd ?_
  refine then_norm ?_
  refine awp_ret ?_
  have e1 := h
  subst e1
  refine ret_ret ?_
  refine fin0 ttok rfl rfl ?_
  exact (wkP_refl _ rfl)

noncomputable def defect_Clip_s1 (b : Bx) (vv : Int) : Option (Int ⊕ ((List Df) ⊕ Unit)) :=
  (bif (decide (vv < 3)) then (Option.bind (getI [b.x, b.y, b.z] vv) (fun e => (bif (!(defect_inside_g e (-1099511627776) 1099511627776)) then some (Sum.inr (Sum.inl ([]))) else some (Sum.inl (W64 (vv + 1)))))) else some (Sum.inr (Sum.inr ())))
noncomputable def defect_Clip_s2 (l : (List Df)) (b : Bx) (clipped1 : (List Df)) (vv1 : Int) : Option (((List Df) × Int) ⊕ (List Df)) :=
  (bif (decide (vv1 < ((l.length : Nat) : Int))) then (Option.bind (getI l vv1) (fun e1 => (letB (defect_meet_g e1.b b) (fun mv => (bif mv.2 then (letB (defect_back_g mv.1.x b.x.a) (fun bv => (letB (defect_back_g mv.1.y b.y.a) (fun bv1 => (letB (defect_back_g mv.1.z b.z.a) (fun bv2 => (Option.bind (appO 56 clipped1 ([(⟨e1.k, (⟨bv, bv1, bv2⟩ : Bx)⟩ : Df)])) (fun l1 => some (Sum.inl (l1, (W64 (vv1 + 1)))))))))))) else some (Sum.inl (clipped1, (W64 (vv1 + 1))))))))) else some (Sum.inr clipped1))
/-- sawmill/defect.Clip -/
noncomputable def defect_Clip_g (l : (List Df)) (b : Bx) : Option (List Df) :=
  (Option.bind (defect_Check_g l) (fun cv => (bif (cv != 0) then some ([]) else (Option.bind ((loopO (fun q => defect_Clip_s1 b q) 0) : Option ((List Df) ⊕ Unit)) (Sum.elim (fun q => some q) (fun _ => (Option.bind ((loopO (fun q => defect_Clip_s2 l b q.1 q.2) ([], 0)) : Option (List Df)) (fun clipped => some clipped))))))))
theorem defect_Clip_w (l : (List Df)) (b : Bx) (r : (List Df)) (h : defect_Clip_g l b = some r) : Holds Try.prog 41 [((encL encDf) l), (encBx b)] [] ((encL encDf) r) [] := by
  unfold defect_Clip_g at h
  refine holds_fn Try.func41 rfl Try.ntmps41 rfl rfl rfl ?_
  refine awp_seq ?_
  refine awp_go hmix ?_
  refine go_run' ttok 2 rfl ?_
  refine go_nil nd ?_
  refine then_norm ?_
  refine awp_seq ?_
  refine awp_seq ?_
  refine awp_go hmix ?_
  refine go_run' ttok 1 rfl ?_
  obtain ⟨cv, hv1, h⟩ := of_obind h
  refine go_call fn33 (defect_Check_w l cv hv1) rfl rfl rfl rfl rfl rfl rfl ?_
  refine go_run' ttok 1 rfl ?_
  refine go_nil nd ?_
  refine then_norm ?_
  refine awp_cond (b := (cv != 0)) rfl (fun c2 => ?_) (fun c2 => ?_)
  · replace h := of_bif_t h c2
    refine awp_seq ?_
    refine awp_go hmix ?_
    refine go_run' ttok 1 rfl ?_
    refine go_nil nd ?_
    refine then_norm ?_
    refine awp_ret ?_
    refine then_ret ?_
    have e3 := of_some h
    subst e3
    refine ret_ret ?_
    refine fin0 ttok rfl rfl ?_
    exact wkP_nilm
  · replace h := of_bif_f h c2
    refine awp_skip ?_
    refine then_norm ?_
    obtain ⟨y, hx4, h⟩ := of_obind h
    refine awp_seqJ (X := Unit) [0, 3] [3] (fun _ => []) (fun _ => []) (fun w => Sum.inr w = y) rfl rfl ?_ ?_
    · skip
      refine awp_seq ?_
      refine awp_go hmix ?_
      refine go_run' ttok 8 rfl ?_
      refine go_nil nd ?_
      refine then_norm ?_
      refine awp_block ?_
      refine awp_loopD (X := Int) (Y := ((List Df) ⊕ Unit)) [0, 3, 22] [3] (fun q => [(23, (I q))]) (fun q => []) (fun q => defect_Clip_s1 b q) 0 [(3, some 3)] hx4 ⟨rfl, rfl, rfl, rfl, rfl, ⟨wkP_id _ rfl, trivial⟩, trivial⟩ (fun vv vR vz hz6 hk7 => ?_)
      change defect_Clip_s1 b vv = _ at hz6
      unfold defect_Clip_s1 at hz6
      refine awp_seq ?_
      refine awp_go hmix ?_
      refine go_run' ttok 1 rfl ?_
      refine go_nil nd ?_
      refine then_norm ?_
      refine awp_seq ?_
      refine awp_cond (b := (decide (vv < 3))) rfl (fun c8 => ?_) (fun c8 => ?_)
      · replace hz6 := of_bif_t hz6 c8
        refine awp_skip ?_
        refine then_norm ?_
        refine awp_seq ?_
        refine awp_block ?_
        refine awp_seq ?_
        refine awp_go hmix ?_
        obtain ⟨e, hv9, hz6⟩ := of_obind hz6
        refine go_indexVT encSp [b.x, b.y, b.z] vv e hv9 rfl (by intro j el hj; match j, hj with | 0, hj => (cases hj; rfl) | 1, hj => (cases hj; rfl) | 2, hj => (cases hj; rfl) | (_ + 3), hj => (exact absurd hj (by simp))) ttok rfl rfl rfl rfl rfl rfl rfl rfl ?_
        refine go_run' ttok 2 rfl ?_
        refine go_nil nd ?_
        refine then_norm ?_
        refine awp_seq ?_
        refine awp_go hmix ?_
        refine go_run' ttok 1 rfl ?_
        refine go_call fn63 (defect_inside_w e (-1099511627776) 1099511627776 _ rfl) rfl rfl rfl rfl rfl rfl rfl ?_
        refine go_run' ttok 1 rfl ?_
        refine go_nil nd ?_
        refine then_norm ?_
        refine awp_cond (b := (!(defect_inside_g e (-1099511627776) 1099511627776))) rfl (fun c10 => ?_) (fun c10 => ?_)
        · replace hz6 := of_bif_t hz6 c10
          refine awp_seq ?_
          refine awp_go hmix ?_
          refine go_run' ttok 1 rfl ?_
          refine go_nil nd ?_
          refine then_norm ?_
          refine awp_ret ?_
          refine block_ret ?_
          refine then_ret ?_
          obtain ⟨t, hn11, hq⟩ := of_mapr' hz6
          subst hq
          have hq : t = _ := hk7
          subst hq
          refine then_ret ?_
          refine block_ret ?_
          obtain ⟨t1, hn12, hq⟩ := of_mapl' hn11
          subst hq
          have hq := of_inl h
          replace hq := of_some hq
          subst hq
          refine then_ret ?_
          have e13 := of_some hn12
          subst e13
          refine ret_ret ?_
          refine fin0 ttok rfl rfl ?_
          exact wkP_nilm
        · replace hz6 := of_bif_f hz6 c10
          refine awp_skip ?_
          refine block_norm ?_
          refine then_norm ?_
          refine awp_go hmix ?_
          refine go_run' ttok 2 rfl ?_
          refine go_nil nd ?_
          have e14 := of_some hz6
          subst e14
          refine then_norm ⟨rfl, (W64 (vv + 1)), [(3, some 3)], ⟨rfl, rfl, rfl, rfl, rfl, ⟨wkP_id _ rfl, trivial⟩, trivial⟩, hk7⟩
      · replace hz6 := of_bif_f hz6 c8
        refine awp_exit ?_
        refine then_exit ?_
        obtain ⟨t2, hn15, hq⟩ := of_mapr' hz6
        subst hq
        have hq : t2 = _ := hk7
        subst hq
        refine then_exit ?_
        refine block_here ?_
        have e16 := of_some hn15
        refine then_norm ⟨rfl, (), [(3, some 3)], ⟨rfl, rfl, rfl, rfl, rfl, trivial, trivial⟩, e16⟩
    · intro w hw5
      subst hw5
      replace h := of_inr h
      refine awp_seq ?_
      refine awp_go hmix ?_
      refine go_run' ttok 1 rfl ?_
      refine go_nil nd ?_
      refine then_norm ?_
      obtain ⟨y1, hx17, h⟩ := of_obind h
      refine awp_seqJ (X := (List Df)) [] [] (fun w1 => [(7, (.arr 7 0 w1.length))]) (fun w1 => [(7, some ⟨41, 7, w1.map encDf⟩)]) (fun w1 => w1 = y1) rfl rfl ?_ ?_
      · skip
        refine awp_seq ?_
        refine awp_go hmix ?_
        refine go_run' ttok 1 rfl ?_
        refine go_lenT encDf l ttok rfl rfl rfl rfl rfl rfl ?_
        refine go_run' ttok 1 rfl ?_
        refine go_nil nd ?_
        refine then_norm ?_
        refine awp_block ?_
        refine awp_loopD (X := ((List Df) × Int)) (Y := (List Df)) [3, 30, 31] [3] (fun q => [(7, (.arr 7 0 q.1.length)), (32, (I q.2))]) (fun q => [(7, some ⟨41, 7, q.1.map encDf⟩)]) (fun q => defect_Clip_s2 l b q.1 q.2) ([], 0) [(7, none), (3, some 3)] hx17 ⟨rfl, rfl, rfl, rfl, rfl, ⟨⟨rfl, rfl, (by first | rfl | simp [setI])⟩, wkP_id _ rfl, trivial⟩, ⟨rfl, trivial⟩⟩ (fun x vR1 vz1 hz19 hk20 => ?_)
        obtain ⟨clipped1, vv1⟩ := x
        change defect_Clip_s2 l b clipped1 vv1 = _ at hz19
        unfold defect_Clip_s2 at hz19
        refine awp_seq ?_
        refine awp_go hmix ?_
        refine go_run' ttok 1 rfl ?_
        refine go_nil nd ?_
        refine then_norm ?_
        refine awp_seq ?_
        refine awp_cond (b := (decide (vv1 < ((l.length : Nat) : Int)))) rfl (fun c21 => ?_) (fun c21 => ?_)
        · replace hz19 := of_bif_t hz19 c21
          refine awp_skip ?_
          refine then_norm ?_
          refine awp_seq ?_
          refine awp_block ?_
          refine awp_seq ?_
          refine awp_go hmix ?_
          obtain ⟨e1, hv22, hz19⟩ := of_obind hz19
          refine go_indexT encDf l vv1 e1 hv22 ttok rfl rfl rfl rfl rfl rfl rfl rfl rfl ?_
          refine go_run' ttok 3 rfl ?_
          refine go_nil nd ?_
          refine then_norm ?_
          refine awp_seq ?_
          refine awp_go hmix ?_
          refine go_run' ttok 3 rfl ?_
          obtain ⟨mv, hv23, hz19⟩ := of_let hz19
          refine go_call fn62 (defect_meet_w e1.b b mv hv23) rfl rfl rfl rfl rfl rfl rfl ?_
          refine go_run' ttok 6 rfl ?_
          refine go_nil nd ?_
          refine then_norm ?_
          refine awp_seq ?_
          refine awp_go hmix ?_
          refine go_run' ttok 1 rfl ?_
          refine go_nil nd ?_
          refine then_norm ?_
          refine awp_cond (b := mv.2) rfl (fun c24 => ?_) (fun c24 => ?_)
          · replace hz19 := of_bif_t hz19 c24
            refine awp_seq ?_
            refine awp_go hmix ?_
            refine go_run' ttok 5 rfl ?_
            obtain ⟨bv, hv25, hz19⟩ := of_let hz19
            refine go_call fn64 (defect_back_w mv.1.x b.x.a bv hv25) rfl rfl rfl rfl rfl rfl rfl ?_
            refine go_run' ttok 5 rfl ?_
            obtain ⟨bv1, hv26, hz19⟩ := of_let hz19
            refine go_call fn64 (defect_back_w mv.1.y b.y.a bv1 hv26) rfl rfl rfl rfl rfl rfl rfl ?_
            refine go_run' ttok 5 rfl ?_
            obtain ⟨bv2, hv27, hz19⟩ := of_let hz19
            refine go_call fn64 (defect_back_w mv.1.z b.z.a bv2 hv27) rfl rfl rfl rfl rfl rfl rfl ?_
            refine go_run' ttok 3 rfl ?_
            refine go_nil (fun _ => by kernel_rfl) ?_
            refine then_norm ?_
            refine awp_go hmix ?_
            refine go_run' ttok 6 rfl ?_
            obtain ⟨l1, hv28, hz19⟩ := of_obind hz19
            refine go_appT encDf clipped1 ([(⟨e1.k, (⟨bv, bv1, bv2⟩ : Bx)⟩ : Df)]) l1 hv28 (fun _ => rfl) (by first | rfl | simp [setI]) (by first | rfl | simp [setI]) ttok rfl rfl rfl rfl rfl rfl rfl rfl rfl rfl rfl rfl rfl rfl rfl rfl rfl ?_
            refine go_run' ttok 1 rfl ?_
            refine go_nil nd ?_
            refine block_norm ?_
            refine then_norm ?_
            refine awp_go hmix ?_
            refine go_run' ttok 2 rfl ?_
            refine go_nil nd ?_
            have e29 := of_some hz19
            subst e29
            refine then_norm ⟨rfl, (l1, (W64 (vv1 + 1))), [(7, some 69), (3, some 3)], ⟨rfl, rfl, rfl, rfl, rfl, ⟨⟨rfl, rfl, (by first | rfl | simp [setI])⟩, wkP_id _ rfl, trivial⟩, ⟨⟨_, rfl, rfl, rfl, wkX_map (enc := encDf) l1 (fun _ => rfl)⟩, trivial⟩⟩, hk20⟩
          · replace hz19 := of_bif_f hz19 c24
            refine awp_skip ?_
            refine block_norm ?_
            refine then_norm ?_
            refine awp_go hmix ?_
            refine go_run' ttok 2 rfl ?_
            refine go_nil nd ?_
            have e30 := of_some hz19
            subst e30
            refine then_norm ⟨rfl, (clipped1, (W64 (vv1 + 1))), [(7, some 7), (3, some 3)], ⟨rfl, rfl, rfl, rfl, rfl, ⟨⟨rfl, rfl, (by first | rfl | simp [setI])⟩, wkP_id _ rfl, trivial⟩, ⟨⟨_, rfl, rfl, rfl, wkX_map (enc := encDf) clipped1 (fun _ => rfl)⟩, trivial⟩⟩, hk20⟩
        · replace hz19 := of_bif_f hz19 c21
          refine awp_exit ?_
          refine then_exit ?_
          obtain ⟨t3, hn31, hq⟩ := of_mapr' hz19
          subst hq
          have hq : t3 = _ := hk20
          subst hq
          refine then_exit ?_
          refine block_here ?_
          have e32 := of_some hn31
          refine then_norm ⟨rfl, clipped1, [(7, some 7)], ⟨rfl, rfl, rfl, rfl, rfl, ⟨⟨rfl, rfl, (by first | rfl | simp [setI])⟩, trivial⟩, ⟨⟨_, rfl, rfl, rfl, wkX_map (enc := encDf) clipped1 (fun _ => rfl)⟩, trivial⟩⟩, e32⟩
      · intro clipped hw18
        subst hw18
        refine awp_seq ?_
        refine awp_go hmix ?_
        refine go_run' ttok 2 rfl ?_
        refine go_nil nd ?_
        refine then_norm ?_
        refine awp_freezeM [] [] [(7, some ⟨41, 7, clipped.map encDf⟩)] [] [(4, (encL encDf clipped))] [] rfl rfl rfl rfl rfl ⟨rfl, by decide, trivial⟩ ⟨(wkP_lend rfl (by first | rfl | simp [setI]) (fun _ => rfl)), trivial⟩ trivial ?_
        refine awp_ret ?_
        have e33 := of_some h
        subst e33
        refine ret_ret ?_
        refine fin0 ttok rfl rfl ?_
        exact (wkP_refl _ rfl)
noncomputable def defect_Clip_cs1 (N : Nat) (b : Bx) (vv : Int) : Option (Int ⊕ ((List Df) ⊕ Unit)) :=
  (bif (decide (vv < 3)) then (Option.bind (getI [b.x, b.y, b.z] vv) (fun e => (bif (!(defect_inside_g e (-1099511627776) 1099511627776)) then some (Sum.inr (Sum.inl ([]))) else some (Sum.inl (W64 (vv + 1)))))) else some (Sum.inr (Sum.inr ())))
theorem defect_Clip_cs1_le (N : Nat) (b : Bx) (vv : Int) : OLe (defect_Clip_cs1 N b vv) (defect_Clip_s1 b vv) := by
  unfold defect_Clip_cs1 defect_Clip_s1
  repeat' (first | exact ole_rfl | exact defect_Check_le _ _ | refine ole_bif ?_ ?_ | refine ole_bind ?_ (fun _ => ?_) | refine ole_let (fun _ => ?_) | refine ole_map ?_ | refine ole_elim (fun _ => ?_) (fun _ => ?_) | refine ole_loop (fun _ => ?_))
noncomputable def defect_Clip_cs2 (N : Nat) (l : (List Df)) (b : Bx) (clipped1 : (List Df)) (vv1 : Int) : Option (((List Df) × Int) ⊕ (List Df)) :=
  (bif (decide (vv1 < ((l.length : Nat) : Int))) then (Option.bind (getI l vv1) (fun e1 => (letB (defect_meet_g e1.b b) (fun mv => (bif mv.2 then (letB (defect_back_g mv.1.x b.x.a) (fun bv => (letB (defect_back_g mv.1.y b.y.a) (fun bv1 => (letB (defect_back_g mv.1.z b.z.a) (fun bv2 => (Option.bind (appO 56 clipped1 ([(⟨e1.k, (⟨bv, bv1, bv2⟩ : Bx)⟩ : Df)])) (fun l1 => some (Sum.inl (l1, (W64 (vv1 + 1)))))))))))) else some (Sum.inl (clipped1, (W64 (vv1 + 1))))))))) else some (Sum.inr clipped1))
theorem defect_Clip_cs2_le (N : Nat) (l : (List Df)) (b : Bx) (clipped1 : (List Df)) (vv1 : Int) : OLe (defect_Clip_cs2 N l b clipped1 vv1) (defect_Clip_s2 l b clipped1 vv1) := by
  unfold defect_Clip_cs2 defect_Clip_s2
  repeat' (first | exact ole_rfl | exact defect_Check_le _ _ | exact defect_Clip_cs1_le _ _ _ | refine ole_bif ?_ ?_ | refine ole_bind ?_ (fun _ => ?_) | refine ole_let (fun _ => ?_) | refine ole_map ?_ | refine ole_elim (fun _ => ?_) (fun _ => ?_) | refine ole_loop (fun _ => ?_))
noncomputable def defect_Clip_c (N : Nat) (l : (List Df)) (b : Bx) : Option (List Df) :=
  (Option.bind ((defect_Check_c N) l) (fun cv => (bif (cv != 0) then some ([]) else (Option.bind ((iterX N (fun q => defect_Clip_cs1 N b q) 0) : Option ((List Df) ⊕ Unit)) (Sum.elim (fun q => some q) (fun _ => (Option.bind ((iterX N (fun q => defect_Clip_cs2 N l b q.1 q.2) ([], 0)) : Option (List Df)) (fun clipped => some clipped))))))))
theorem defect_Clip_le (N : Nat) (l : (List Df)) (b : Bx) : OLe (defect_Clip_c N l b) (defect_Clip_g l b) := by
  unfold defect_Clip_c defect_Clip_g
  repeat' (first | exact ole_rfl | exact defect_Check_le _ _ | exact defect_Clip_cs1_le _ _ _ | exact defect_Clip_cs2_le _ _ _ _ _ | refine ole_bif ?_ ?_ | refine ole_bind ?_ (fun _ => ?_) | refine ole_let (fun _ => ?_) | refine ole_map ?_ | refine ole_elim (fun _ => ?_) (fun _ => ?_) | refine ole_loop (fun _ => ?_))

theorem eqT41_1 : eqB Try.prog shDf 41 = true := by kernel_rfl
theorem eqT41_2 : (Try.prog).eqGuardType (Try.prog).depth 41 = false := by kernel_rfl

noncomputable def r13_Same_s1 (a : (List Df)) (b : (List Df)) (i : Int) : Option (Int ⊕ (Bool ⊕ Unit)) :=
  (bif (decide (i < ((a.length : Nat) : Int))) then (Option.bind (getI a i) (fun e => (Option.bind (getI b i) (fun e1 => (bif (!(eqV encDf e e1)) then some (Sum.inr (Sum.inl false)) else some (Sum.inl (W64 (i + 1)))))))) else some (Sum.inr (Sum.inr ())))
/-- sawmill/sawmillref13.Same -/
noncomputable def r13_Same_g (a : (List Df)) (b : (List Df)) : Option Bool :=
  (bif (((a.length : Nat) : Int) != ((b.length : Nat) : Int)) then some false else (Option.bind ((loopO (fun q => r13_Same_s1 a b q) 0) : Option (Bool ⊕ Unit)) (Sum.elim (fun q => some q) (fun _ => some true))))
theorem r13_Same_w (a : (List Df)) (b : (List Df)) (r : Bool) (h : r13_Same_g a b = some r) : Holds Try.prog 40 [((encL encDf) a), ((encL encDf) b)] [] (B r) [] := by
  unfold r13_Same_g at h
  refine holds_fn Try.func40 rfl Try.ntmps40 rfl rfl rfl ?_
  refine awp_seq ?_
  refine awp_go hmix ?_
  refine go_run' ttok 1 rfl ?_
  refine go_nil nd ?_
  refine then_norm ?_
  refine awp_seq ?_
  refine awp_seq ?_
  refine awp_go hmix ?_
  refine go_run' ttok 1 rfl ?_
  refine go_lenT encDf a ttok rfl rfl rfl rfl rfl rfl ?_
  refine go_run' ttok 1 rfl ?_
  refine go_lenT encDf b ttok rfl rfl rfl rfl rfl rfl ?_
  refine go_run' ttok 1 rfl ?_
  refine go_nil nd ?_
  refine then_norm ?_
  refine awp_cond (b := (((a.length : Nat) : Int) != ((b.length : Nat) : Int))) rfl (fun c1 => ?_) (fun c1 => ?_)
  · replace h := of_bif_t h c1
    refine awp_seq ?_
    refine awp_go hmix ?_
    refine go_run' ttok 1 rfl ?_
    refine go_nil nd ?_
    refine then_norm ?_
    refine awp_ret ?_
    refine then_ret ?_
    have e2 := of_some h
    subst e2
    refine ret_ret ?_
    refine fin0 ttok rfl rfl ?_
    exact (wkP_refl _ rfl)
  · replace h := of_bif_f h c1
    refine awp_skip ?_
    refine then_norm ?_
    obtain ⟨y, hx3, h⟩ := of_obind h
    refine awp_seqJ (X := Unit) [] [] (fun _ => []) (fun _ => []) (fun w => Sum.inr w = y) rfl rfl ?_ ?_
    · skip
      refine awp_seq ?_
      refine awp_go hmix ?_
      refine go_run' ttok 1 rfl ?_
      refine go_nil nd ?_
      refine then_norm ?_
      refine awp_block ?_
      refine awp_loopD (X := Int) (Y := (Bool ⊕ Unit)) [0, 1] [] (fun q => [(5, (I q))]) (fun q => []) (fun q => r13_Same_s1 a b q) 0 [] hx3 ⟨rfl, rfl, rfl, rfl, rfl, ⟨wkP_id _ rfl, trivial⟩, trivial⟩ (fun i vR vz hz5 hk6 => ?_)
      change r13_Same_s1 a b i = _ at hz5
      unfold r13_Same_s1 at hz5
      refine awp_seq ?_
      refine awp_seq ?_
      refine awp_go hmix ?_
      refine go_run' ttok 2 rfl ?_
      refine go_lenT encDf a ttok rfl rfl rfl rfl rfl rfl ?_
      refine go_run' ttok 1 rfl ?_
      refine go_nil nd ?_
      refine then_norm ?_
      refine awp_cond (b := (decide (i < ((a.length : Nat) : Int)))) rfl (fun c7 => ?_) (fun c7 => ?_)
      · replace hz5 := of_bif_t hz5 c7
        refine awp_skip ?_
        refine then_norm ?_
        refine awp_seq ?_
        refine awp_block ?_
        refine awp_seq ?_
        refine awp_go hmix ?_
        refine go_run' ttok 2 rfl ?_
        obtain ⟨e, hv8, hz5⟩ := of_obind hz5
        refine go_indexT encDf a i e hv8 ttok rfl rfl rfl rfl rfl rfl rfl rfl rfl ?_
        refine go_run' ttok 3 rfl ?_
        obtain ⟨e1, hv9, hz5⟩ := of_obind hz5
        refine go_indexT encDf b i e1 hv9 ttok rfl rfl rfl rfl rfl rfl rfl rfl rfl ?_
        refine go_run' ttok 1 rfl ?_
        refine go_step rfl (as_neAgg shDf rfl eqT41_1 eqT41_2 (by decide) rfl rfl rfl rfl rfl) rfl rfl rfl ?_
        refine go_nil (fun _ => by kernel_rfl) ?_
        refine then_norm ?_
        refine awp_cond (b := (!(eqV encDf e e1))) rfl (fun c10 => ?_) (fun c10 => ?_)
        · replace hz5 := of_bif_t hz5 c10
          refine awp_seq ?_
          refine awp_go hmix ?_
          refine go_run' ttok 1 rfl ?_
          refine go_nil nd ?_
          refine then_norm ?_
          refine awp_ret ?_
          refine block_ret ?_
          refine then_ret ?_
          obtain ⟨t, hn11, hq⟩ := of_mapr' hz5
          subst hq
          have hq : t = _ := hk6
          subst hq
          refine then_ret ?_
          refine block_ret ?_
          obtain ⟨t1, hn12, hq⟩ := of_mapl' hn11
          subst hq
          have hq := of_inl h
          replace hq := of_some hq
          subst hq
          refine then_ret ?_
          have e13 := of_some hn12
          subst e13
          refine ret_ret ?_
          refine fin0 ttok rfl rfl ?_
          exact (wkP_refl _ rfl)
        · replace hz5 := of_bif_f hz5 c10
          refine awp_skip ?_
          refine block_norm ?_
          refine then_norm ?_
          refine awp_go hmix ?_
          refine go_run' ttok 3 rfl ?_
          refine go_nil nd ?_
          have e14 := of_some hz5
          subst e14
          refine then_norm ⟨rfl, (W64 (i + 1)), [], ⟨rfl, rfl, rfl, rfl, rfl, ⟨wkP_id _ rfl, trivial⟩, trivial⟩, hk6⟩
      · replace hz5 := of_bif_f hz5 c7
        refine awp_exit ?_
        refine then_exit ?_
        obtain ⟨t2, hn15, hq⟩ := of_mapr' hz5
        subst hq
        have hq : t2 = _ := hk6
        subst hq
        refine then_exit ?_
        refine block_here ?_
        have e16 := of_some hn15
        refine then_norm ⟨rfl, (), [], ⟨rfl, rfl, rfl, rfl, rfl, trivial, trivial⟩, e16⟩
    · intro w hw4
      subst hw4
      replace h := of_inr h
      refine awp_seq ?_
      refine awp_go hmix ?_
      refine go_run' ttok 1 rfl ?_
      refine go_nil nd ?_
      refine then_norm ?_
      refine awp_ret ?_
      have e17 := of_some h
      subst e17
      refine ret_ret ?_
      refine fin0 ttok rfl rfl ?_
      exact (wkP_refl _ rfl)
noncomputable def r13_Same_cs1 (N : Nat) (a : (List Df)) (b : (List Df)) (i : Int) : Option (Int ⊕ (Bool ⊕ Unit)) :=
  (bif (decide (i < ((a.length : Nat) : Int))) then (Option.bind (getI a i) (fun e => (Option.bind (getI b i) (fun e1 => (bif (!(eqV encDf e e1)) then some (Sum.inr (Sum.inl false)) else some (Sum.inl (W64 (i + 1)))))))) else some (Sum.inr (Sum.inr ())))
theorem r13_Same_cs1_le (N : Nat) (a : (List Df)) (b : (List Df)) (i : Int) : OLe (r13_Same_cs1 N a b i) (r13_Same_s1 a b i) := by
  unfold r13_Same_cs1 r13_Same_s1
  repeat' (first | exact ole_rfl | refine ole_bif ?_ ?_ | refine ole_bind ?_ (fun _ => ?_) | refine ole_let (fun _ => ?_) | refine ole_map ?_ | refine ole_elim (fun _ => ?_) (fun _ => ?_) | refine ole_loop (fun _ => ?_))
noncomputable def r13_Same_c (N : Nat) (a : (List Df)) (b : (List Df)) : Option Bool :=
  (bif (((a.length : Nat) : Int) != ((b.length : Nat) : Int)) then some false else (Option.bind ((iterX N (fun q => r13_Same_cs1 N a b q) 0) : Option (Bool ⊕ Unit)) (Sum.elim (fun q => some q) (fun _ => some true))))
theorem r13_Same_le (N : Nat) (a : (List Df)) (b : (List Df)) : OLe (r13_Same_c N a b) (r13_Same_g a b) := by
  unfold r13_Same_c r13_Same_g
  repeat' (first | exact ole_rfl | exact r13_Same_cs1_le _ _ _ _ | refine ole_bif ?_ ?_ | refine ole_bind ?_ (fun _ => ?_) | refine ole_let (fun _ => ?_) | refine ole_map ?_ | refine ole_elim (fun _ => ?_) (fun _ => ?_) | refine ole_loop (fun _ => ?_))

noncomputable def defect_Turn_s2 (quarters : Int) (vv1 : Int) (d1 : Df) : Option ((Int × Df) ⊕ Df) :=
  (bif (decide (vv1 < (Int.tmod (W64 ((Int.tmod quarters 4) + 4)) 4))) then some (Sum.inl ((W64 (vv1 + 1)), (⟨d1.k, (⟨(⟨(W64 (0 - d1.b.y.b)), (W64 (0 - d1.b.y.a))⟩ : Sp), d1.b.x, d1.b.z⟩ : Bx)⟩ : Df))) else some (Sum.inr d1))
noncomputable def defect_Turn_s1 (l : (List Df)) (quarters : Int) (vv : Int) (turned1 : (List Df)) : Option ((Int × (List Df)) ⊕ (List Df)) :=
  (bif (decide (vv < ((l.length : Nat) : Int))) then (Option.bind ((Option.bind (getI l vv) (fun e => (Option.bind ((loopO (fun q => defect_Turn_s2 quarters q.1 q.2) (0, e)) : Option Df) (fun d => (Option.bind (getI turned1 vv) (fun e1 => some (setI turned1 vv d))))))) : Option (List Df)) (fun turned2 => some (Sum.inl ((W64 (vv + 1)), turned2)))) else some (Sum.inr turned1))
/-- sawmill/defect.Turn -/
noncomputable def defect_Turn_g (l : (List Df)) (quarters : Int) : Option (List Df) :=
  (Option.bind (defect_Check_g l) (fun cv => (bif (cv != 0) then some ([]) else (Option.bind (mkO 56 (⟨0, (⟨(⟨0, 0⟩ : Sp), (⟨0, 0⟩ : Sp), (⟨0, 0⟩ : Sp)⟩ : Bx)⟩ : Df) ((l.length : Nat) : Int)) (fun m => (Option.bind ((loopO (fun q => defect_Turn_s1 l quarters q.1 q.2) (0, m)) : Option (List Df)) (fun turned => some turned)))))))
theorem defect_Turn_w (l : (List Df)) (quarters : Int) (r : (List Df)) (h : defect_Turn_g l quarters = some r) : Holds Try.prog 43 [((encL encDf) l), (I quarters)] [] ((encL encDf) r) [] := by
  unfold defect_Turn_g at h
  refine holds_fn Try.func43 rfl Try.ntmps43 rfl rfl rfl ?_
  refine awp_seq ?_
  refine awp_go hmix ?_
  refine go_run' ttok 1 rfl ?_
  refine go_nil nd ?_
  refine then_norm ?_
  refine awp_seq ?_
  refine awp_seq ?_
  refine awp_go hmix ?_
  refine go_run' ttok 1 rfl ?_
  obtain ⟨cv, hv1, h⟩ := of_obind h
  refine go_call fn33 (defect_Check_w l cv hv1) rfl rfl rfl rfl rfl rfl rfl ?_
  refine go_run' ttok 1 rfl ?_
  refine go_nil nd ?_
  refine then_norm ?_
  refine awp_cond (b := (cv != 0)) rfl (fun c2 => ?_) (fun c2 => ?_)
  · replace h := of_bif_t h c2
    refine awp_seq ?_
    refine awp_go hmix ?_
    refine go_run' ttok 1 rfl ?_
    refine go_nil nd ?_
    refine then_norm ?_
    refine awp_ret ?_
    refine then_ret ?_
    have e3 := of_some h
    subst e3
    refine ret_ret ?_
    refine fin0 ttok rfl rfl ?_
    exact wkP_nilm
  · replace h := of_bif_f h c2
    refine awp_skip ?_
    refine then_norm ?_
    refine awp_seq ?_
    refine awp_go hmix ?_
    refine go_run' ttok 5 rfl ?_
    refine go_nil nd ?_
    refine then_norm ?_
    refine awp_seq ?_
    refine awp_go hmix ?_
    refine go_run' ttok 1 rfl ?_
    refine go_lenT encDf l ttok rfl rfl rfl rfl rfl rfl ?_
    obtain ⟨m, hv4, h⟩ := of_obind h
    refine go_makeT encDf (⟨0, (⟨(⟨0, 0⟩ : Sp), (⟨0, 0⟩ : Sp), (⟨0, 0⟩ : Sp)⟩ : Bx)⟩ : Df) ((l.length : Nat) : Int) m hv4 ttok rfl rfl rfl rfl rfl rfl rfl rfl rfl rfl rfl rfl rfl ?_
    refine go_run' ttok 1 rfl ?_
    refine go_nil nd ?_
    refine then_norm ?_
    obtain ⟨y, hx5, h⟩ := of_obind h
    refine awp_seqJ (X := (List Df)) [] [] (fun w => [(5, (.arr 17 0 w.length))]) (fun w => [(17, some ⟨41, 7, w.map encDf⟩)]) (fun w => w = y) rfl rfl ?_ ?_
    · skip
      refine awp_seq ?_
      refine awp_go hmix ?_
      refine go_run' ttok 1 rfl ?_
      refine go_lenT encDf l ttok rfl rfl rfl rfl rfl rfl ?_
      refine go_run' ttok 1 rfl ?_
      refine go_nil nd ?_
      refine then_norm ?_
      refine awp_block ?_
      refine awp_loopD (X := (Int × (List Df))) (Y := (List Df)) [1, 18, 19] [] (fun q => [(20, (I q.1)), (5, (.arr 17 0 q.2.length))]) (fun q => [(17, some ⟨41, 7, q.2.map encDf⟩)]) (fun q => defect_Turn_s1 l quarters q.1 q.2) (0, m) [(17, some 17)] hx5 ⟨rfl, rfl, rfl, rfl, rfl, ⟨wkP_id _ rfl, ⟨rfl, rfl, (by first | rfl | simp [setI])⟩, trivial⟩, ⟨⟨_, rfl, rfl, rfl, wkX_map (enc := encDf) m (fun _ => rfl)⟩, trivial⟩⟩ (fun x vR vz hz7 hk8 => ?_)
      obtain ⟨vv, turned1⟩ := x
      change defect_Turn_s1 l quarters vv turned1 = _ at hz7
      unfold defect_Turn_s1 at hz7
      refine awp_seq ?_
      refine awp_go hmix ?_
      refine go_run' ttok 1 rfl ?_
      refine go_nil nd ?_
      refine then_norm ?_
      refine awp_seq ?_
      refine awp_cond (b := (decide (vv < ((l.length : Nat) : Int)))) rfl (fun c9 => ?_) (fun c9 => ?_)
      · replace hz7 := of_bif_t hz7 c9
        refine awp_skip ?_
        refine then_norm ?_
        obtain ⟨y1, hx10, hz7⟩ := of_obind hz7
        refine awp_seqJ (X := (List Df)) [1, 18, 19, 20] [] (fun w1 => [(5, (.arr 17 0 w1.length))]) (fun w1 => [(17, some ⟨41, 7, w1.map encDf⟩)]) (fun w1 => w1 = y1) rfl rfl ?_ ?_
        · skip
          refine awp_block ?_
          refine awp_seq ?_
          refine awp_go hmix ?_
          refine go_run' ttok 1 rfl ?_
          obtain ⟨e, hv12, hx10⟩ := of_obind hx10
          refine go_indexT encDf l vv e hv12 ttok rfl rfl rfl rfl rfl rfl rfl rfl rfl ?_
          refine go_run' ttok 4 rfl ?_
          refine go_nil nd ?_
          refine then_norm ?_
          obtain ⟨y2, hx13, hx10⟩ := of_obind hx10
          refine awp_seqJ (X := Df) [1, 6, 7, 18, 19, 20] [] (fun w2 => [(5, (.arr 17 0 turned1.length))]) (fun w2 => [(17, some ⟨41, 7, turned1.map encDf⟩), (7, some ⟨41, 7, [(.agg [(I w2.k), (I w2.b.x.a), (I w2.b.x.b), (I w2.b.y.a), (I w2.b.y.b), (I w2.b.z.a), (I w2.b.z.b)])]⟩)]) (fun w2 => w2 = y2) rfl rfl ?_ ?_
          · skip
            refine awp_seq ?_
            refine awp_go hmix ?_
            refine go_run' ttok 2 rfl ?_
            refine go_nil nd ?_
            refine then_norm ?_
            refine awp_block ?_
            refine awp_loopD (X := (Int × Df)) (Y := Df) [1, 6, 7, 18, 19, 20, 25] [] (fun q => [(26, (I q.1)), (5, (.arr 17 0 turned1.length))]) (fun q => [(17, some ⟨41, 7, turned1.map encDf⟩), (7, some ⟨41, 7, [(.agg [(I q.2.k), (I q.2.b.x.a), (I q.2.b.x.b), (I q.2.b.y.a), (I q.2.b.y.b), (I q.2.b.z.a), (I q.2.b.z.b)])]⟩)]) (fun q => defect_Turn_s2 quarters q.1 q.2) (0, e) [(17, some 17), (7, some 7)] hx13 ⟨rfl, rfl, rfl, rfl, rfl, ⟨wkP_id _ rfl, ⟨rfl, rfl, (by first | rfl | simp [setI])⟩, trivial⟩, ⟨⟨_, rfl, rfl, rfl, wkX_map (enc := encDf) turned1 (fun _ => rfl)⟩, ⟨_, rfl, rfl, rfl, .inl ⟨rfl, nr_one rfl⟩⟩, trivial⟩⟩ (fun x1 vR1 vz1 hz15 hk16 => ?_)
            obtain ⟨vv1, d1⟩ := x1
            change defect_Turn_s2 quarters vv1 d1 = _ at hz15
            unfold defect_Turn_s2 at hz15
            refine awp_seq ?_
            refine awp_go hmix ?_
            refine go_run' ttok 1 rfl ?_
            refine go_nil nd ?_
            refine then_norm ?_
            refine awp_seq ?_
            refine awp_cond (b := (decide (vv1 < (Int.tmod (W64 ((Int.tmod quarters 4) + 4)) 4)))) rfl (fun c17 => ?_) (fun c17 => ?_)
            · replace hz15 := of_bif_t hz15 c17
              refine awp_skip ?_
              refine then_norm ?_
              refine awp_seq ?_
              refine awp_block ?_
              refine awp_go hmix ?_
              refine go_run' ttok 20 rfl ?_
              refine go_nil nd ?_
              refine block_norm ?_
              refine then_norm ?_
              refine awp_go hmix ?_
              refine go_run' ttok 2 rfl ?_
              refine go_nil nd ?_
              have e18 := of_some hz15
              subst e18
              refine then_norm ⟨rfl, ((W64 (vv1 + 1)), (⟨d1.k, (⟨(⟨(W64 (0 - d1.b.y.b)), (W64 (0 - d1.b.y.a))⟩ : Sp), d1.b.x, d1.b.z⟩ : Bx)⟩ : Df)), [(17, some 17), (7, some 7)], ⟨rfl, rfl, rfl, rfl, rfl, ⟨wkP_id _ rfl, ⟨rfl, rfl, (by first | rfl | simp [setI])⟩, trivial⟩, ⟨⟨_, rfl, rfl, rfl, wkX_map (enc := encDf) turned1 (fun _ => rfl)⟩, ⟨_, rfl, rfl, rfl, .inl ⟨rfl, nr_one rfl⟩⟩, trivial⟩⟩, hk16⟩
            · replace hz15 := of_bif_f hz15 c17
              refine awp_exit ?_
              refine then_exit ?_
              obtain ⟨t, hn19, hq⟩ := of_mapr' hz15
              subst hq
              have hq : t = _ := hk16
              subst hq
              refine then_exit ?_
              refine block_here ?_
              have e20 := of_some hn19
              refine then_norm ⟨rfl, d1, [(17, some 17), (7, some 7)], ⟨rfl, rfl, rfl, rfl, rfl, ⟨⟨rfl, rfl, (by first | rfl | simp [setI])⟩, trivial⟩, ⟨⟨_, rfl, rfl, rfl, wkX_map (enc := encDf) turned1 (fun _ => rfl)⟩, ⟨_, rfl, rfl, rfl, .inl ⟨rfl, nr_one rfl⟩⟩, trivial⟩⟩, e20⟩
          · intro d hw14
            subst hw14
            refine awp_go hmix ?_
            refine go_run' ttok 3 rfl ?_
            obtain ⟨e1, hv21, hx10⟩ := of_obind hx10
            refine go_indexAT encDf turned1 vv e1 hv21 (by first | rfl | simp [setI]) ttok rfl rfl rfl rfl rfl rfl rfl rfl rfl rfl ?_
            refine go_storeT encDf turned1 vv e1 d hv21 ttok rfl rfl rfl rfl rfl rfl rfl rfl rfl rfl rfl rfl ?_
            refine go_nil nd ?_
            refine block_norm ?_
            have e22 := of_some hx10
            refine then_norm ⟨rfl, (setI turned1 vv d), [(17, some 17)], ⟨rfl, rfl, rfl, rfl, rfl, ⟨⟨rfl, rfl, (by first | rfl | simp [setI])⟩, trivial⟩, ⟨⟨_, rfl, rfl, rfl, wkX_map (enc := encDf) (setI turned1 vv d) (fun _ => rfl)⟩, trivial⟩⟩, e22⟩
        · intro turned2 hw11
          subst hw11
          refine awp_go hmix ?_
          refine go_run' ttok 2 rfl ?_
          refine go_nil nd ?_
          have e23 := of_some hz7
          subst e23
          refine then_norm ⟨rfl, ((W64 (vv + 1)), turned2), [(17, some 17)], ⟨rfl, rfl, rfl, rfl, rfl, ⟨wkP_id _ rfl, ⟨rfl, rfl, (by first | rfl | simp [setI])⟩, trivial⟩, ⟨⟨_, rfl, rfl, rfl, wkX_map (enc := encDf) turned2 (fun _ => rfl)⟩, trivial⟩⟩, hk8⟩
      · replace hz7 := of_bif_f hz7 c9
        refine awp_exit ?_
        refine then_exit ?_
        obtain ⟨t1, hn24, hq⟩ := of_mapr' hz7
        subst hq
        have hq : t1 = _ := hk8
        subst hq
        refine then_exit ?_
        refine block_here ?_
        have e25 := of_some hn24
        refine then_norm ⟨rfl, turned1, [(17, some 17)], ⟨rfl, rfl, rfl, rfl, rfl, ⟨⟨rfl, rfl, (by first | rfl | simp [setI])⟩, trivial⟩, ⟨⟨_, rfl, rfl, rfl, wkX_map (enc := encDf) turned1 (fun _ => rfl)⟩, trivial⟩⟩, e25⟩
    · intro turned hw6
      subst hw6
      refine awp_seq ?_
      refine awp_go hmix ?_
      refine go_run' ttok 2 rfl ?_
      refine go_nil nd ?_
      refine then_norm ?_
      refine awp_freezeM [] [] [(17, some ⟨41, 7, turned.map encDf⟩)] [] [(4, (encL encDf turned))] [] rfl rfl rfl rfl rfl ⟨rfl, by decide, trivial⟩ ⟨(wkP_lend rfl (by first | rfl | simp [setI]) (fun _ => rfl)), trivial⟩ trivial ?_
      refine awp_ret ?_
      have e26 := of_some h
      subst e26
      refine ret_ret ?_
      refine fin0 ttok rfl rfl ?_
      exact (wkP_refl _ rfl)
noncomputable def defect_Turn_cs2 (N : Nat) (quarters : Int) (vv1 : Int) (d1 : Df) : Option ((Int × Df) ⊕ Df) :=
  (bif (decide (vv1 < (Int.tmod (W64 ((Int.tmod quarters 4) + 4)) 4))) then some (Sum.inl ((W64 (vv1 + 1)), (⟨d1.k, (⟨(⟨(W64 (0 - d1.b.y.b)), (W64 (0 - d1.b.y.a))⟩ : Sp), d1.b.x, d1.b.z⟩ : Bx)⟩ : Df))) else some (Sum.inr d1))
theorem defect_Turn_cs2_le (N : Nat) (quarters : Int) (vv1 : Int) (d1 : Df) : OLe (defect_Turn_cs2 N quarters vv1 d1) (defect_Turn_s2 quarters vv1 d1) := by
  unfold defect_Turn_cs2 defect_Turn_s2
  repeat' (first | exact ole_rfl | exact defect_Check_le _ _ | refine ole_bif ?_ ?_ | refine ole_bind ?_ (fun _ => ?_) | refine ole_let (fun _ => ?_) | refine ole_map ?_ | refine ole_elim (fun _ => ?_) (fun _ => ?_) | refine ole_loop (fun _ => ?_))
noncomputable def defect_Turn_cs1 (N : Nat) (l : (List Df)) (quarters : Int) (vv : Int) (turned1 : (List Df)) : Option ((Int × (List Df)) ⊕ (List Df)) :=
  (bif (decide (vv < ((l.length : Nat) : Int))) then (Option.bind ((Option.bind (getI l vv) (fun e => (Option.bind ((iterX N (fun q => defect_Turn_cs2 N quarters q.1 q.2) (0, e)) : Option Df) (fun d => (Option.bind (getI turned1 vv) (fun e1 => some (setI turned1 vv d))))))) : Option (List Df)) (fun turned2 => some (Sum.inl ((W64 (vv + 1)), turned2)))) else some (Sum.inr turned1))
theorem defect_Turn_cs1_le (N : Nat) (l : (List Df)) (quarters : Int) (vv : Int) (turned1 : (List Df)) : OLe (defect_Turn_cs1 N l quarters vv turned1) (defect_Turn_s1 l quarters vv turned1) := by
  unfold defect_Turn_cs1 defect_Turn_s1
  repeat' (first | exact ole_rfl | exact defect_Check_le _ _ | exact defect_Turn_cs2_le _ _ _ _ | refine ole_bif ?_ ?_ | refine ole_bind ?_ (fun _ => ?_) | refine ole_let (fun _ => ?_) | refine ole_map ?_ | refine ole_elim (fun _ => ?_) (fun _ => ?_) | refine ole_loop (fun _ => ?_))
noncomputable def defect_Turn_c (N : Nat) (l : (List Df)) (quarters : Int) : Option (List Df) :=
  (Option.bind ((defect_Check_c N) l) (fun cv => (bif (cv != 0) then some ([]) else (Option.bind (mkO 56 (⟨0, (⟨(⟨0, 0⟩ : Sp), (⟨0, 0⟩ : Sp), (⟨0, 0⟩ : Sp)⟩ : Bx)⟩ : Df) ((l.length : Nat) : Int)) (fun m => (Option.bind ((iterX N (fun q => defect_Turn_cs1 N l quarters q.1 q.2) (0, m)) : Option (List Df)) (fun turned => some turned)))))))
theorem defect_Turn_le (N : Nat) (l : (List Df)) (quarters : Int) : OLe (defect_Turn_c N l quarters) (defect_Turn_g l quarters) := by
  unfold defect_Turn_c defect_Turn_g
  repeat' (first | exact ole_rfl | exact defect_Check_le _ _ | exact defect_Turn_cs2_le _ _ _ _ | exact defect_Turn_cs1_le _ _ _ _ _ | refine ole_bif ?_ ?_ | refine ole_bind ?_ (fun _ => ?_) | refine ole_let (fun _ => ?_) | refine ole_map ?_ | refine ole_elim (fun _ => ?_) (fun _ => ?_) | refine ole_loop (fun _ => ?_))

noncomputable def defect_Count_s1 (l : (List Df)) (kind : Int) (vcount1 : Int) (vv : Int) : Option ((Int × Int) ⊕ Int) :=
  (bif (decide (vv < ((l.length : Nat) : Int))) then (Option.bind (getI l vv) (fun e => (bif (e.k == kind) then some (Sum.inl ((W64 (vcount1 + 1)), (W64 (vv + 1)))) else some (Sum.inl (vcount1, (W64 (vv + 1))))))) else some (Sum.inr vcount1))
/-- sawmill/defect.Count -/
noncomputable def defect_Count_g (l : (List Df)) (kind : Int) : Option Int :=
  (Option.bind ((loopO (fun q => defect_Count_s1 l kind q.1 q.2) (0, 0)) : Option Int) (fun vcount => some vcount))
theorem defect_Count_w (l : (List Df)) (kind : Int) (r : Int) (h : defect_Count_g l kind = some r) : Holds Try.prog 34 [((encL encDf) l), (I kind)] [] (I r) [] := by
  unfold defect_Count_g at h
  refine holds_fn Try.func34 rfl Try.ntmps34 rfl rfl rfl ?_
  refine awp_seq ?_
  refine awp_go hmix ?_
  refine go_run' ttok 1 rfl ?_
  refine go_nil nd ?_
  refine then_norm ?_
  refine awp_seq ?_
  refine awp_go hmix ?_
  refine go_run' ttok 1 rfl ?_
  refine go_nil nd ?_
  refine then_norm ?_
  obtain ⟨y, hx1, h⟩ := of_obind h
  refine awp_seqJ (X := Int) [] [] (fun w => [(5, (I w))]) (fun w => []) (fun w => w = y) rfl rfl ?_ ?_
  · skip
    refine awp_seq ?_
    refine awp_go hmix ?_
    refine go_run' ttok 1 rfl ?_
    refine go_lenT encDf l ttok rfl rfl rfl rfl rfl rfl ?_
    refine go_run' ttok 1 rfl ?_
    refine go_nil nd ?_
    refine then_norm ?_
    refine awp_block ?_
    refine awp_loopD (X := (Int × Int)) (Y := Int) [1, 8, 9] [] (fun q => [(5, (I q.1)), (10, (I q.2))]) (fun q => []) (fun q => defect_Count_s1 l kind q.1 q.2) (0, 0) [] hx1 ⟨rfl, rfl, rfl, rfl, rfl, ⟨wkP_id _ rfl, wkP_id _ rfl, trivial⟩, trivial⟩ (fun x vR vz hz3 hk4 => ?_)
    obtain ⟨vcount1, vv⟩ := x
    change defect_Count_s1 l kind vcount1 vv = _ at hz3
    unfold defect_Count_s1 at hz3
    refine awp_seq ?_
    refine awp_go hmix ?_
    refine go_run' ttok 1 rfl ?_
    refine go_nil nd ?_
    refine then_norm ?_
    refine awp_seq ?_
    refine awp_cond (b := (decide (vv < ((l.length : Nat) : Int)))) rfl (fun c5 => ?_) (fun c5 => ?_)
    · replace hz3 := of_bif_t hz3 c5
      refine awp_skip ?_
      refine then_norm ?_
      refine awp_seq ?_
      refine awp_block ?_
      refine awp_seq ?_
      refine awp_go hmix ?_
      obtain ⟨e, hv6, hz3⟩ := of_obind hz3
      refine go_indexT encDf l vv e hv6 ttok rfl rfl rfl rfl rfl rfl rfl rfl rfl ?_
      refine go_run' ttok 3 rfl ?_
      refine go_nil nd ?_
      refine then_norm ?_
      refine awp_seq ?_
      refine awp_go hmix ?_
      refine go_run' ttok 4 rfl ?_
      refine go_nil nd ?_
      refine then_norm ?_
      refine awp_cond (b := (e.k == kind)) rfl (fun c7 => ?_) (fun c7 => ?_)
      · replace hz3 := of_bif_t hz3 c7
        refine awp_go hmix ?_
        refine go_run' ttok 3 rfl ?_
        refine go_nil nd ?_
        refine block_norm ?_
        refine then_norm ?_
        refine awp_go hmix ?_
        refine go_run' ttok 2 rfl ?_
        refine go_nil nd ?_
        have e8 := of_some hz3
        subst e8
        refine then_norm ⟨rfl, ((W64 (vcount1 + 1)), (W64 (vv + 1))), [], ⟨rfl, rfl, rfl, rfl, rfl, ⟨wkP_id _ rfl, wkP_id _ rfl, trivial⟩, trivial⟩, hk4⟩
      · replace hz3 := of_bif_f hz3 c7
        refine awp_skip ?_
        refine block_norm ?_
        refine then_norm ?_
        refine awp_go hmix ?_
        refine go_run' ttok 2 rfl ?_
        refine go_nil nd ?_
        have e9 := of_some hz3
        subst e9
        refine then_norm ⟨rfl, (vcount1, (W64 (vv + 1))), [], ⟨rfl, rfl, rfl, rfl, rfl, ⟨wkP_id _ rfl, wkP_id _ rfl, trivial⟩, trivial⟩, hk4⟩
    · replace hz3 := of_bif_f hz3 c5
      refine awp_exit ?_
      refine then_exit ?_
      obtain ⟨t, hn10, hq⟩ := of_mapr' hz3
      subst hq
      have hq : t = _ := hk4
      subst hq
      refine then_exit ?_
      refine block_here ?_
      have e11 := of_some hn10
      refine then_norm ⟨rfl, vcount1, [], ⟨rfl, rfl, rfl, rfl, rfl, ⟨wkP_id _ rfl, trivial⟩, trivial⟩, e11⟩
  · intro vcount hw2
    subst hw2
    refine awp_seq ?_
    refine awp_go hmix ?_
    refine go_run' ttok 2 rfl ?_
    refine go_nil nd ?_
    refine then_norm ?_
    refine awp_ret ?_
    have e12 := of_some h
    subst e12
    refine ret_ret ?_
    refine fin0 ttok rfl rfl ?_
    exact (wkP_refl _ rfl)
noncomputable def defect_Count_cs1 (N : Nat) (l : (List Df)) (kind : Int) (vcount1 : Int) (vv : Int) : Option ((Int × Int) ⊕ Int) :=
  (bif (decide (vv < ((l.length : Nat) : Int))) then (Option.bind (getI l vv) (fun e => (bif (e.k == kind) then some (Sum.inl ((W64 (vcount1 + 1)), (W64 (vv + 1)))) else some (Sum.inl (vcount1, (W64 (vv + 1))))))) else some (Sum.inr vcount1))
theorem defect_Count_cs1_le (N : Nat) (l : (List Df)) (kind : Int) (vcount1 : Int) (vv : Int) : OLe (defect_Count_cs1 N l kind vcount1 vv) (defect_Count_s1 l kind vcount1 vv) := by
  unfold defect_Count_cs1 defect_Count_s1
  repeat' (first | exact ole_rfl | refine ole_bif ?_ ?_ | refine ole_bind ?_ (fun _ => ?_) | refine ole_let (fun _ => ?_) | refine ole_map ?_ | refine ole_elim (fun _ => ?_) (fun _ => ?_) | refine ole_loop (fun _ => ?_))
noncomputable def defect_Count_c (N : Nat) (l : (List Df)) (kind : Int) : Option Int :=
  (Option.bind ((iterX N (fun q => defect_Count_cs1 N l kind q.1 q.2) (0, 0)) : Option Int) (fun vcount => some vcount))
theorem defect_Count_le (N : Nat) (l : (List Df)) (kind : Int) : OLe (defect_Count_c N l kind) (defect_Count_g l kind) := by
  unfold defect_Count_c defect_Count_g
  repeat' (first | exact ole_rfl | exact defect_Count_cs1_le _ _ _ _ _ | refine ole_bif ?_ ?_ | refine ole_bind ?_ (fun _ => ?_) | refine ole_let (fun _ => ?_) | refine ole_map ?_ | refine ole_elim (fun _ => ?_) (fun _ => ?_) | refine ole_loop (fun _ => ?_))

noncomputable def defect_Largest_s1 (l : (List Df)) (kind : Int) (largest1 : Int) (vv : Int) : Option ((Int × Int) ⊕ Int) :=
  (bif (decide (vv < ((l.length : Nat) : Int))) then (Option.bind (getI l vv) (fun e => (bif (e.k == kind) then some (Sum.inl ((max largest1 (defect_Size_g e)), (W64 (vv + 1)))) else some (Sum.inl (largest1, (W64 (vv + 1))))))) else some (Sum.inr largest1))
/-- sawmill/defect.Largest -/
noncomputable def defect_Largest_g (l : (List Df)) (kind : Int) : Option Int :=
  (Option.bind ((loopO (fun q => defect_Largest_s1 l kind q.1 q.2) (0, 0)) : Option Int) (fun largest => some largest))
theorem defect_Largest_w (l : (List Df)) (kind : Int) (r : Int) (h : defect_Largest_g l kind = some r) : Holds Try.prog 36 [((encL encDf) l), (I kind)] [] (I r) [] := by
  unfold defect_Largest_g at h
  refine holds_fn Try.func36 rfl Try.ntmps36 rfl rfl rfl ?_
  refine awp_seq ?_
  refine awp_go hmix ?_
  refine go_run' ttok 1 rfl ?_
  refine go_nil nd ?_
  refine then_norm ?_
  refine awp_seq ?_
  refine awp_go hmix ?_
  refine go_run' ttok 1 rfl ?_
  refine go_nil nd ?_
  refine then_norm ?_
  obtain ⟨y, hx1, h⟩ := of_obind h
  refine awp_seqJ (X := Int) [] [] (fun w => [(5, (I w))]) (fun w => []) (fun w => w = y) rfl rfl ?_ ?_
  · skip
    refine awp_seq ?_
    refine awp_go hmix ?_
    refine go_run' ttok 1 rfl ?_
    refine go_lenT encDf l ttok rfl rfl rfl rfl rfl rfl ?_
    refine go_run' ttok 1 rfl ?_
    refine go_nil nd ?_
    refine then_norm ?_
    refine awp_block ?_
    refine awp_loopD (X := (Int × Int)) (Y := Int) [1, 8, 9] [] (fun q => [(5, (I q.1)), (10, (I q.2))]) (fun q => []) (fun q => defect_Largest_s1 l kind q.1 q.2) (0, 0) [] hx1 ⟨rfl, rfl, rfl, rfl, rfl, ⟨wkP_id _ rfl, wkP_id _ rfl, trivial⟩, trivial⟩ (fun x vR vz hz3 hk4 => ?_)
    obtain ⟨largest1, vv⟩ := x
    change defect_Largest_s1 l kind largest1 vv = _ at hz3
    unfold defect_Largest_s1 at hz3
    refine awp_seq ?_
    refine awp_go hmix ?_
    refine go_run' ttok 1 rfl ?_
    refine go_nil nd ?_
    refine then_norm ?_
    refine awp_seq ?_
    refine awp_cond (b := (decide (vv < ((l.length : Nat) : Int)))) rfl (fun c5 => ?_) (fun c5 => ?_)
    · replace hz3 := of_bif_t hz3 c5
      refine awp_skip ?_
      refine then_norm ?_
      refine awp_seq ?_
      refine awp_block ?_
      refine awp_seq ?_
      refine awp_go hmix ?_
      obtain ⟨e, hv6, hz3⟩ := of_obind hz3
      refine go_indexT encDf l vv e hv6 ttok rfl rfl rfl rfl rfl rfl rfl rfl rfl ?_
      refine go_run' ttok 3 rfl ?_
      refine go_nil nd ?_
      refine then_norm ?_
      refine awp_seq ?_
      refine awp_go hmix ?_
      refine go_run' ttok 4 rfl ?_
      refine go_nil nd ?_
      refine then_norm ?_
      refine awp_cond (b := (e.k == kind)) rfl (fun c7 => ?_) (fun c7 => ?_)
      · replace hz3 := of_bif_t hz3 c7
        refine awp_go hmix ?_
        refine go_run' ttok 2 rfl ?_
        refine go_call fn31 (defect_Size_w e _ rfl) rfl rfl rfl rfl rfl rfl rfl ?_
        refine go_run' ttok 2 rfl ?_
        refine go_nil nd ?_
        refine block_norm ?_
        refine then_norm ?_
        refine awp_go hmix ?_
        refine go_run' ttok 2 rfl ?_
        refine go_nil nd ?_
        have e8 := of_some hz3
        subst e8
        refine then_norm ⟨rfl, ((max largest1 (defect_Size_g e)), (W64 (vv + 1))), [], ⟨rfl, rfl, rfl, rfl, rfl, ⟨wkP_id _ rfl, wkP_id _ rfl, trivial⟩, trivial⟩, hk4⟩
      · replace hz3 := of_bif_f hz3 c7
        refine awp_skip ?_
        refine block_norm ?_
        refine then_norm ?_
        refine awp_go hmix ?_
        refine go_run' ttok 2 rfl ?_
        refine go_nil nd ?_
        have e9 := of_some hz3
        subst e9
        refine then_norm ⟨rfl, (largest1, (W64 (vv + 1))), [], ⟨rfl, rfl, rfl, rfl, rfl, ⟨wkP_id _ rfl, wkP_id _ rfl, trivial⟩, trivial⟩, hk4⟩
    · replace hz3 := of_bif_f hz3 c5
      refine awp_exit ?_
      refine then_exit ?_
      obtain ⟨t, hn10, hq⟩ := of_mapr' hz3
      subst hq
      have hq : t = _ := hk4
      subst hq
      refine then_exit ?_
      refine block_here ?_
      have e11 := of_some hn10
      refine then_norm ⟨rfl, largest1, [], ⟨rfl, rfl, rfl, rfl, rfl, ⟨wkP_id _ rfl, trivial⟩, trivial⟩, e11⟩
  · intro largest hw2
    subst hw2
    refine awp_seq ?_
    refine awp_go hmix ?_
    refine go_run' ttok 2 rfl ?_
    refine go_nil nd ?_
    refine then_norm ?_
    refine awp_ret ?_
    have e12 := of_some h
    subst e12
    refine ret_ret ?_
    refine fin0 ttok rfl rfl ?_
    exact (wkP_refl _ rfl)
noncomputable def defect_Largest_cs1 (N : Nat) (l : (List Df)) (kind : Int) (largest1 : Int) (vv : Int) : Option ((Int × Int) ⊕ Int) :=
  (bif (decide (vv < ((l.length : Nat) : Int))) then (Option.bind (getI l vv) (fun e => (bif (e.k == kind) then some (Sum.inl ((max largest1 (defect_Size_g e)), (W64 (vv + 1)))) else some (Sum.inl (largest1, (W64 (vv + 1))))))) else some (Sum.inr largest1))
theorem defect_Largest_cs1_le (N : Nat) (l : (List Df)) (kind : Int) (largest1 : Int) (vv : Int) : OLe (defect_Largest_cs1 N l kind largest1 vv) (defect_Largest_s1 l kind largest1 vv) := by
  unfold defect_Largest_cs1 defect_Largest_s1
  repeat' (first | exact ole_rfl | refine ole_bif ?_ ?_ | refine ole_bind ?_ (fun _ => ?_) | refine ole_let (fun _ => ?_) | refine ole_map ?_ | refine ole_elim (fun _ => ?_) (fun _ => ?_) | refine ole_loop (fun _ => ?_))
noncomputable def defect_Largest_c (N : Nat) (l : (List Df)) (kind : Int) : Option Int :=
  (Option.bind ((iterX N (fun q => defect_Largest_cs1 N l kind q.1 q.2) (0, 0)) : Option Int) (fun largest => some largest))
theorem defect_Largest_le (N : Nat) (l : (List Df)) (kind : Int) : OLe (defect_Largest_c N l kind) (defect_Largest_g l kind) := by
  unfold defect_Largest_c defect_Largest_g
  repeat' (first | exact ole_rfl | exact defect_Largest_cs1_le _ _ _ _ _ | refine ole_bif ?_ ?_ | refine ole_bind ?_ (fun _ => ?_) | refine ole_let (fun _ => ?_) | refine ole_map ?_ | refine ole_elim (fun _ => ?_) (fun _ => ?_) | refine ole_loop (fun _ => ?_))

/-- sawmill/sawmilllaw13.awake -/
noncomputable def l13_awake_g : Option Bool :=
  (letB (l13_box_g 10 30 0 5 100 140) (fun bv => (letB (l13_box_g 0 10 0 10 0 10) (fun bv1 => (letB (l13_box_g 0 20 0 10 100 120) (fun bv2 => (letB (l13_box_g 0 1 0 30 140 150) (fun bv3 => (letB (l13_box_g 20 60 0 40 120 900) (fun bv4 => (Option.bind (defect_Check_g ([(⟨1, bv⟩ : Df)])) (fun cv => (bif (cv == 0) then (Option.bind (defect_Check_g ([(⟨7, (⟨(⟨0, 0⟩ : Sp), (⟨0, 0⟩ : Sp), (⟨0, 0⟩ : Sp)⟩ : Bx)⟩ : Df)])) (fun cv1 => (bif (cv1 == 10) then (Option.bind (getI ([(⟨1, bv⟩ : Df)]) 0) (fun e => (bif (defect_Touches_g e bv4) then (Option.bind (defect_Clip_g ([(⟨1, bv⟩ : Df)]) bv4) (fun cv2 => (letB (l13_box_g 0 10 0 5 0 20) (fun bv5 => (Option.bind (r13_Same_g cv2 ([(⟨1, bv5⟩ : Df)])) (fun sv => (bif sv then (Option.bind (defect_Turn_g ([(⟨1, bv⟩ : Df)]) 1) (fun tv => (letB (l13_box_g (-5) 0 10 30 100 140) (fun bv6 => (Option.bind (r13_Same_g tv ([(⟨1, bv6⟩ : Df)])) (fun sv1 => (bif sv1 then (Option.bind (defect_Count_g ([(⟨1, bv1⟩ : Df), (⟨2, bv2⟩ : Df), (⟨1, bv3⟩ : Df)]) 1) (fun cv3 => (bif (cv3 == 2) then (Option.bind (getI ([(⟨1, bv1⟩ : Df), (⟨2, bv2⟩ : Df), (⟨1, bv3⟩ : Df)]) 2) (fun e1 => (bif ((defect_Size_g e1) == 30) then (Option.bind (defect_Largest_g ([(⟨1, bv1⟩ : Df), (⟨2, bv2⟩ : Df), (⟨1, bv3⟩ : Df)]) 2) (fun lv => (bif (lv == 20) then (Option.bind (defect_Worst_g ([(⟨1, bv1⟩ : Df), (⟨2, bv2⟩ : Df), (⟨1, bv3⟩ : Df)]) 100) (fun wv => some (wv == 50))) else some false))) else some false))) else some false))) else some false))))))) else some false))))))) else some false))) else some false))) else some false)))))))))))))
theorem l13_awake_w (r : Bool) (h : l13_awake_g = some r) : Holds Try.prog 30 [] [] (B r) [] := by
  unfold l13_awake_g at h
  refine holds_fn Try.func30 rfl Try.ntmps30 rfl rfl rfl ?_
  refine awp_seq ?_
  refine awp_go hmix ?_
  refine go_run' ttok 1 rfl ?_
  refine go_nil nd ?_
  refine then_norm ?_
  refine awp_seq ?_
  refine awp_go hmix ?_
  obtain ⟨bv, hv1, h⟩ := of_let h
  refine go_call fn48 (l13_box_w 10 30 0 5 100 140 bv hv1) rfl rfl rfl rfl rfl rfl rfl ?_
  refine go_run' ttok 3 rfl ?_
  refine go_nil nd ?_
  refine then_norm ?_
  refine awp_seq ?_
  refine awp_go hmix ?_
  obtain ⟨bv1, hv2, h⟩ := of_let h
  refine go_call fn48 (l13_box_w 0 10 0 10 0 10 bv1 hv2) rfl rfl rfl rfl rfl rfl rfl ?_
  refine go_run' ttok 1 rfl ?_
  obtain ⟨bv2, hv3, h⟩ := of_let h
  refine go_call fn48 (l13_box_w 0 20 0 10 100 120 bv2 hv3) rfl rfl rfl rfl rfl rfl rfl ?_
  refine go_run' ttok 1 rfl ?_
  obtain ⟨bv3, hv4, h⟩ := of_let h
  refine go_call fn48 (l13_box_w 0 1 0 30 140 150 bv3 hv4) rfl rfl rfl rfl rfl rfl rfl ?_
  refine go_run' ttok 3 rfl ?_
  refine go_nil nd ?_
  refine then_norm ?_
  refine awp_seq ?_
  refine awp_go hmix ?_
  obtain ⟨bv4, hv5, h⟩ := of_let h
  refine go_call fn48 (l13_box_w 20 60 0 40 120 900 bv4 hv5) rfl rfl rfl rfl rfl rfl rfl ?_
  refine go_run' ttok 2 rfl ?_
  refine go_nil nd ?_
  refine then_norm ?_
  refine awp_seq ?_
  refine awp_freezeM [3] [3] [(6, some ⟨41, 7, ([(⟨1, bv⟩ : Df)]).map encDf⟩)] [(13, some 13), (3, some 3)] [(1, (encL encDf ([(⟨1, bv⟩ : Df)]))), (2, (.arr 13 0 3))] [(13, some ⟨41, 7, ([(⟨1, bv1⟩ : Df), (⟨2, bv2⟩ : Df), (⟨1, bv3⟩ : Df)]).map encDf⟩)] rfl rfl rfl rfl rfl ⟨rfl, by decide, trivial⟩ ⟨(wkP_lend rfl (by first | rfl | simp [setI]) (fun _ => rfl)), (wkP_id _ rfl), trivial⟩ ⟨⟨_, rfl, rfl, rfl, .inl ⟨rfl, nr_map (fun _ => rfl) _⟩⟩, trivial⟩ ?_
  refine awp_go hmix ?_
  refine go_run' ttok 1 rfl ?_
  obtain ⟨cv, hv6, h⟩ := of_obind h
  refine go_call fn33 (defect_Check_w ([(⟨1, bv⟩ : Df)]) cv hv6) rfl rfl rfl rfl rfl rfl rfl ?_
  refine go_run' ttok 2 rfl ?_
  refine go_gcase rfl rfl rfl (fun g7 => ?_) (fun g7 => ?_)
  · rw [g7]
    replace h := of_bif_t h g7
    refine go_run' ttok 2 rfl ?_
    obtain ⟨cv1, hv8, h⟩ := of_obind h
    refine go_callL (L := [(20, some ⟨41, 7, ([(⟨7, (⟨(⟨0, 0⟩ : Sp), (⟨0, 0⟩ : Sp), (⟨0, 0⟩ : Sp)⟩ : Bx)⟩ : Df)]).map encDf⟩)]) fn33 (defect_Check_w ([(⟨7, (⟨(⟨0, 0⟩ : Sp), (⟨0, 0⟩ : Sp), (⟨0, 0⟩ : Sp)⟩ : Bx)⟩ : Df)]) cv1 hv8) rfl rfl rfl ⟨rfl, List.not_mem_nil, trivial⟩ ⟨(wkP_lend rfl (by first | rfl | simp [setI]) (fun _ => rfl)), trivial⟩ rfl rfl (fun _ => rfl) rfl ?_
    refine go_run' ttok 3 rfl ?_
    refine go_gcase rfl rfl rfl (fun g9 => ?_) (fun g9 => ?_)
    · rw [g9]
      replace h := of_bif_t h g9
      refine go_run' ttok 1 rfl ?_
      obtain ⟨e, hv10, h⟩ := of_obind h
      refine go_indexT encDf ([(⟨1, bv⟩ : Df)]) 0 e hv10 ttok rfl rfl rfl rfl rfl rfl rfl rfl rfl ?_
      refine go_run' ttok 2 rfl ?_
      refine go_call fn38 (defect_Touches_w e bv4 _ rfl) rfl rfl rfl rfl rfl rfl rfl ?_
      refine go_run' ttok 2 rfl ?_
      refine go_gcase rfl rfl rfl (fun g11 => ?_) (fun g11 => ?_)
      · rw [g11]
        replace h := of_bif_t h g11
        refine go_run' ttok 2 rfl ?_
        obtain ⟨cv2, hv12, h⟩ := of_obind h
        refine go_call fn41 (defect_Clip_w ([(⟨1, bv⟩ : Df)]) bv4 cv2 hv12) rfl rfl rfl rfl rfl rfl rfl ?_
        obtain ⟨bv5, hv13, h⟩ := of_let h
        refine go_call fn48 (l13_box_w 0 10 0 5 0 20 bv5 hv13) rfl rfl rfl rfl rfl rfl rfl ?_
        refine go_run' ttok 2 rfl ?_
        obtain ⟨sv, hv14, h⟩ := of_obind h
        refine go_callL (L := [(37, some ⟨41, 7, ([(⟨1, bv5⟩ : Df)]).map encDf⟩)]) fn40 (r13_Same_w cv2 ([(⟨1, bv5⟩ : Df)]) sv hv14) rfl rfl rfl ⟨rfl, List.not_mem_nil, trivial⟩ ⟨(wkP_refl _ rfl), (wkP_lend rfl (by first | rfl | simp [setI]) (fun _ => rfl)), trivial⟩ rfl rfl (fun _ => rfl) rfl ?_
        refine go_run' ttok 2 rfl ?_
        refine go_gcase rfl rfl rfl (fun g15 => ?_) (fun g15 => ?_)
        · rw [g15]
          replace h := of_bif_t h g15
          refine go_run' ttok 1 rfl ?_
          obtain ⟨tv, hv16, h⟩ := of_obind h
          refine go_call fn43 (defect_Turn_w ([(⟨1, bv⟩ : Df)]) 1 tv hv16) rfl rfl rfl rfl rfl rfl rfl ?_
          obtain ⟨bv6, hv17, h⟩ := of_let h
          refine go_call fn48 (l13_box_w (-5) 0 10 30 100 140 bv6 hv17) rfl rfl rfl rfl rfl rfl rfl ?_
          refine go_run' ttok 2 rfl ?_
          obtain ⟨sv1, hv18, h⟩ := of_obind h
          refine go_callL (L := [(45, some ⟨41, 7, ([(⟨1, bv6⟩ : Df)]).map encDf⟩)]) fn40 (r13_Same_w tv ([(⟨1, bv6⟩ : Df)]) sv1 hv18) rfl rfl rfl ⟨rfl, List.not_mem_nil, trivial⟩ ⟨(wkP_refl _ rfl), (wkP_lend rfl (by first | rfl | simp [setI]) (fun _ => rfl)), trivial⟩ rfl rfl (fun _ => rfl) rfl ?_
          refine go_run' ttok 2 rfl ?_
          refine go_gcase rfl rfl rfl (fun g19 => ?_) (fun g19 => ?_)
          · rw [g19]
            replace h := of_bif_t h g19
            refine go_run' ttok 1 rfl ?_
            obtain ⟨cv3, hv20, h⟩ := of_obind h
            refine go_callL (L := [(13, some ⟨41, 7, ([(⟨1, bv1⟩ : Df), (⟨2, bv2⟩ : Df), (⟨1, bv3⟩ : Df)]).map encDf⟩)]) fn34 (defect_Count_w ([(⟨1, bv1⟩ : Df), (⟨2, bv2⟩ : Df), (⟨1, bv3⟩ : Df)]) 1 cv3 hv20) rfl rfl rfl ⟨rfl, List.not_mem_nil, trivial⟩ ⟨(wkP_lend rfl (by first | rfl | simp [setI]) (fun _ => rfl)), (wkP_refl _ rfl), trivial⟩ rfl rfl (fun _ => rfl) rfl ?_
            refine go_run' ttok 3 rfl ?_
            refine go_gcase rfl rfl rfl (fun g21 => ?_) (fun g21 => ?_)
            · rw [g21]
              replace h := of_bif_t h g21
              refine go_run' ttok 1 rfl ?_
              obtain ⟨e1, hv22, h⟩ := of_obind h
              refine go_indexAT encDf ([(⟨1, bv1⟩ : Df), (⟨2, bv2⟩ : Df), (⟨1, bv3⟩ : Df)]) 2 e1 hv22 (by first | rfl | simp [setI]) ttok rfl rfl rfl rfl rfl rfl rfl rfl rfl rfl ?_
              refine go_loadT encDf ([(⟨1, bv1⟩ : Df), (⟨2, bv2⟩ : Df), (⟨1, bv3⟩ : Df)]) 2 e1 _ hv22 ttok rfl rfl rfl rfl rfl rfl rfl ?_
              refine go_call fn31 (defect_Size_w e1 _ rfl) rfl rfl rfl rfl rfl rfl rfl ?_
              refine go_run' ttok 3 rfl ?_
              refine go_gcase rfl rfl rfl (fun g23 => ?_) (fun g23 => ?_)
              · rw [g23]
                replace h := of_bif_t h g23
                refine go_run' ttok 1 rfl ?_
                obtain ⟨lv, hv24, h⟩ := of_obind h
                refine go_callL (L := [(13, some ⟨41, 7, ([(⟨1, bv1⟩ : Df), (⟨2, bv2⟩ : Df), (⟨1, bv3⟩ : Df)]).map encDf⟩)]) fn36 (defect_Largest_w ([(⟨1, bv1⟩ : Df), (⟨2, bv2⟩ : Df), (⟨1, bv3⟩ : Df)]) 2 lv hv24) rfl rfl rfl ⟨rfl, List.not_mem_nil, trivial⟩ ⟨(wkP_lend rfl (by first | rfl | simp [setI]) (fun _ => rfl)), (wkP_refl _ rfl), trivial⟩ rfl rfl (fun _ => rfl) rfl ?_
                refine go_run' ttok 3 rfl ?_
                refine go_gcase rfl rfl rfl (fun g25 => ?_) (fun g25 => ?_)
                · rw [g25]
                  replace h := of_bif_t h g25
                  refine go_run' ttok 1 rfl ?_
                  obtain ⟨wv, hv26, h⟩ := of_obind h
                  refine go_callL (L := [(13, some ⟨41, 7, ([(⟨1, bv1⟩ : Df), (⟨2, bv2⟩ : Df), (⟨1, bv3⟩ : Df)]).map encDf⟩)]) fn45 (defect_Worst_w ([(⟨1, bv1⟩ : Df), (⟨2, bv2⟩ : Df), (⟨1, bv3⟩ : Df)]) 100 wv hv26) rfl rfl rfl ⟨rfl, List.not_mem_nil, trivial⟩ ⟨(wkP_lend rfl (by first | rfl | simp [setI]) (fun _ => rfl)), (wkP_refl _ rfl), trivial⟩ rfl rfl (fun _ => rfl) rfl ?_
                  refine go_run' ttok 3 rfl ?_
                  refine go_nil (fun _ => by kernel_rfl) ?_
                  refine then_norm ?_
                  refine awp_ret ?_
                  have e27 := of_some h
                  subst e27
                  refine ret_ret ?_
                  refine fin0 ttok rfl rfl ?_
                  exact (wkP_refl _ rfl)
                · rw [g25]
                  replace h := of_bif_f h g25
                  refine go_run' ttok 5 rfl ?_
                  refine go_nil (fun _ => by kernel_rfl) ?_
                  refine then_norm ?_
                  refine awp_ret ?_
                  have e28 := of_some h
                  subst e28
                  refine ret_ret ?_
                  refine fin0 ttok rfl rfl ?_
                  exact (wkP_refl _ rfl)
              · rw [g23]
                replace h := of_bif_f h g23
                refine go_run' ttok 10 rfl ?_
                refine go_nil (fun _ => by kernel_rfl) ?_
                refine then_norm ?_
                refine awp_ret ?_
                have e29 := of_some h
                subst e29
                refine ret_ret ?_
                refine fin0 ttok rfl rfl ?_
                exact (wkP_refl _ rfl)
            · rw [g21]
              replace h := of_bif_f h g21
              refine go_run' ttok 17 rfl ?_
              refine go_nil (fun _ => by kernel_rfl) ?_
              refine then_norm ?_
              refine awp_ret ?_
              have e30 := of_some h
              subst e30
              refine ret_ret ?_
              refine fin0 ttok rfl rfl ?_
              exact (wkP_refl _ rfl)
          · rw [g19]
            replace h := of_bif_f h g19
            refine go_run' ttok 22 rfl ?_
            refine go_nil (fun _ => by kernel_rfl) ?_
            refine then_norm ?_
            refine awp_ret ?_
            have e31 := of_some h
            subst e31
            refine ret_ret ?_
            refine fin0 ttok rfl rfl ?_
            exact (wkP_refl _ rfl)
        · rw [g15]
          replace h := of_bif_f h g15
          refine go_run' ttok 30 rfl ?_
          refine go_nil (fun _ => by kernel_rfl) ?_
          refine then_norm ?_
          refine awp_ret ?_
          have e32 := of_some h
          subst e32
          refine ret_ret ?_
          refine fin0 ttok rfl rfl ?_
          exact (wkP_refl _ rfl)
      · rw [g11]
        replace h := of_bif_f h g11
        refine go_run' ttok 39 rfl ?_
        refine go_nil (fun _ => by kernel_rfl) ?_
        refine then_norm ?_
        refine awp_ret ?_
        have e33 := of_some h
        subst e33
        refine ret_ret ?_
        refine fin0 ttok rfl rfl ?_
        exact (wkP_refl _ rfl)
    · rw [g9]
      replace h := of_bif_f h g9
      refine go_run' ttok 46 rfl ?_
      refine go_nil (fun _ => by kernel_rfl) ?_
      refine then_norm ?_
      refine awp_ret ?_
      have e34 := of_some h
      subst e34
      refine ret_ret ?_
      refine fin0 ttok rfl rfl ?_
      exact (wkP_refl _ rfl)
  · rw [g7]
    replace h := of_bif_f h g7
    refine go_run' ttok 52 rfl ?_
    refine go_nil (fun _ => by kernel_rfl) ?_
    refine then_norm ?_
    refine awp_ret ?_
    have e35 := of_some h
    subst e35
    refine ret_ret ?_
    refine fin0 ttok rfl rfl ?_
    exact (wkP_refl _ rfl)
noncomputable def l13_awake_c (N : Nat) : Option Bool :=
  (letB (l13_box_g 10 30 0 5 100 140) (fun bv => (letB (l13_box_g 0 10 0 10 0 10) (fun bv1 => (letB (l13_box_g 0 20 0 10 100 120) (fun bv2 => (letB (l13_box_g 0 1 0 30 140 150) (fun bv3 => (letB (l13_box_g 20 60 0 40 120 900) (fun bv4 => (Option.bind ((defect_Check_c N) ([(⟨1, bv⟩ : Df)])) (fun cv => (bif (cv == 0) then (Option.bind ((defect_Check_c N) ([(⟨7, (⟨(⟨0, 0⟩ : Sp), (⟨0, 0⟩ : Sp), (⟨0, 0⟩ : Sp)⟩ : Bx)⟩ : Df)])) (fun cv1 => (bif (cv1 == 10) then (Option.bind (getI ([(⟨1, bv⟩ : Df)]) 0) (fun e => (bif (defect_Touches_g e bv4) then (Option.bind ((defect_Clip_c N) ([(⟨1, bv⟩ : Df)]) bv4) (fun cv2 => (letB (l13_box_g 0 10 0 5 0 20) (fun bv5 => (Option.bind ((r13_Same_c N) cv2 ([(⟨1, bv5⟩ : Df)])) (fun sv => (bif sv then (Option.bind ((defect_Turn_c N) ([(⟨1, bv⟩ : Df)]) 1) (fun tv => (letB (l13_box_g (-5) 0 10 30 100 140) (fun bv6 => (Option.bind ((r13_Same_c N) tv ([(⟨1, bv6⟩ : Df)])) (fun sv1 => (bif sv1 then (Option.bind ((defect_Count_c N) ([(⟨1, bv1⟩ : Df), (⟨2, bv2⟩ : Df), (⟨1, bv3⟩ : Df)]) 1) (fun cv3 => (bif (cv3 == 2) then (Option.bind (getI ([(⟨1, bv1⟩ : Df), (⟨2, bv2⟩ : Df), (⟨1, bv3⟩ : Df)]) 2) (fun e1 => (bif ((defect_Size_g e1) == 30) then (Option.bind ((defect_Largest_c N) ([(⟨1, bv1⟩ : Df), (⟨2, bv2⟩ : Df), (⟨1, bv3⟩ : Df)]) 2) (fun lv => (bif (lv == 20) then (Option.bind ((defect_Worst_c N) ([(⟨1, bv1⟩ : Df), (⟨2, bv2⟩ : Df), (⟨1, bv3⟩ : Df)]) 100) (fun wv => some (wv == 50))) else some false))) else some false))) else some false))) else some false))))))) else some false))))))) else some false))) else some false))) else some false)))))))))))))
theorem l13_awake_le (N : Nat) : OLe (l13_awake_c N) (l13_awake_g) := by
  unfold l13_awake_c l13_awake_g
  repeat' (first | exact ole_rfl | exact defect_Check_le _ _ | exact defect_Clip_le _ _ _ | exact r13_Same_le _ _ _ | exact defect_Turn_le _ _ _ | exact defect_Count_le _ _ _ | exact defect_Largest_le _ _ _ | exact defect_Worst_le _ _ _ | refine ole_bif ?_ ?_ | refine ole_bind ?_ (fun _ => ?_) | refine ole_let (fun _ => ?_) | refine ole_map ?_ | refine ole_elim (fun _ => ?_) (fun _ => ?_) | refine ole_loop (fun _ => ?_))

noncomputable def r13_Count_s1 (l : (List Df)) (kind : Int) (n1 : Int) (i : Int) : Option ((Int × Int) ⊕ Int) :=
  (bif (decide (i < ((l.length : Nat) : Int))) then (Option.bind (getI l i) (fun e => (bif (e.k == kind) then some (Sum.inl ((W64 (n1 + 1)), (W64 (i + 1)))) else some (Sum.inl (n1, (W64 (i + 1))))))) else some (Sum.inr n1))
/-- sawmill/sawmillref13.Count -/
noncomputable def r13_Count_g (l : (List Df)) (kind : Int) : Option Int :=
  (Option.bind ((loopO (fun q => r13_Count_s1 l kind q.1 q.2) (0, 0)) : Option Int) (fun n => some n))
theorem r13_Count_w (l : (List Df)) (kind : Int) (r : Int) (h : r13_Count_g l kind = some r) : Holds Try.prog 35 [((encL encDf) l), (I kind)] [] (I r) [] := by
  unfold r13_Count_g at h
  refine holds_fn Try.func35 rfl Try.ntmps35 rfl rfl rfl ?_
  refine awp_seq ?_
  refine awp_go hmix ?_
  refine go_run' ttok 1 rfl ?_
  refine go_nil nd ?_
  refine then_norm ?_
  refine awp_seq ?_
  refine awp_go hmix ?_
  refine go_run' ttok 1 rfl ?_
  refine go_nil nd ?_
  refine then_norm ?_
  obtain ⟨y, hx1, h⟩ := of_obind h
  refine awp_seqJ (X := Int) [] [] (fun w => [(5, (I w))]) (fun w => []) (fun w => w = y) rfl rfl ?_ ?_
  · skip
    refine awp_seq ?_
    refine awp_go hmix ?_
    refine go_run' ttok 1 rfl ?_
    refine go_nil nd ?_
    refine then_norm ?_
    refine awp_block ?_
    refine awp_loopD (X := (Int × Int)) (Y := Int) [0, 1] [] (fun q => [(5, (I q.1)), (6, (I q.2))]) (fun q => []) (fun q => r13_Count_s1 l kind q.1 q.2) (0, 0) [] hx1 ⟨rfl, rfl, rfl, rfl, rfl, ⟨wkP_id _ rfl, wkP_id _ rfl, trivial⟩, trivial⟩ (fun x vR vz hz3 hk4 => ?_)
    obtain ⟨n1, i⟩ := x
    change r13_Count_s1 l kind n1 i = _ at hz3
    unfold r13_Count_s1 at hz3
    refine awp_seq ?_
    refine awp_seq ?_
    refine awp_go hmix ?_
    refine go_run' ttok 2 rfl ?_
    refine go_lenT encDf l ttok rfl rfl rfl rfl rfl rfl ?_
    refine go_run' ttok 1 rfl ?_
    refine go_nil nd ?_
    refine then_norm ?_
    refine awp_cond (b := (decide (i < ((l.length : Nat) : Int)))) rfl (fun c5 => ?_) (fun c5 => ?_)
    · replace hz3 := of_bif_t hz3 c5
      refine awp_skip ?_
      refine then_norm ?_
      refine awp_seq ?_
      refine awp_block ?_
      refine awp_seq ?_
      refine awp_go hmix ?_
      refine go_run' ttok 2 rfl ?_
      obtain ⟨e, hv6, hz3⟩ := of_obind hz3
      refine go_indexT encDf l i e hv6 ttok rfl rfl rfl rfl rfl rfl rfl rfl rfl ?_
      refine go_run' ttok 4 rfl ?_
      refine go_nil nd ?_
      refine then_norm ?_
      refine awp_cond (b := (e.k == kind)) rfl (fun c7 => ?_) (fun c7 => ?_)
      · replace hz3 := of_bif_t hz3 c7
        refine awp_go hmix ?_
        refine go_run' ttok 3 rfl ?_
        refine go_nil nd ?_
        refine block_norm ?_
        refine then_norm ?_
        refine awp_go hmix ?_
        refine go_run' ttok 3 rfl ?_
        refine go_nil nd ?_
        have e8 := of_some hz3
        subst e8
        refine then_norm ⟨rfl, ((W64 (n1 + 1)), (W64 (i + 1))), [], ⟨rfl, rfl, rfl, rfl, rfl, ⟨wkP_id _ rfl, wkP_id _ rfl, trivial⟩, trivial⟩, hk4⟩
      · replace hz3 := of_bif_f hz3 c7
        refine awp_skip ?_
        refine block_norm ?_
        refine then_norm ?_
        refine awp_go hmix ?_
        refine go_run' ttok 3 rfl ?_
        refine go_nil nd ?_
        have e9 := of_some hz3
        subst e9
        refine then_norm ⟨rfl, (n1, (W64 (i + 1))), [], ⟨rfl, rfl, rfl, rfl, rfl, ⟨wkP_id _ rfl, wkP_id _ rfl, trivial⟩, trivial⟩, hk4⟩
    · replace hz3 := of_bif_f hz3 c5
      refine awp_exit ?_
      refine then_exit ?_
      obtain ⟨t, hn10, hq⟩ := of_mapr' hz3
      subst hq
      have hq : t = _ := hk4
      subst hq
      refine then_exit ?_
      refine block_here ?_
      have e11 := of_some hn10
      refine then_norm ⟨rfl, n1, [], ⟨rfl, rfl, rfl, rfl, rfl, ⟨wkP_id _ rfl, trivial⟩, trivial⟩, e11⟩
  · intro n hw2
    subst hw2
    refine awp_seq ?_
    refine awp_go hmix ?_
    refine go_run' ttok 2 rfl ?_
    refine go_nil nd ?_
    refine then_norm ?_
    refine awp_ret ?_
    have e12 := of_some h
    subst e12
    refine ret_ret ?_
    refine fin0 ttok rfl rfl ?_
    exact (wkP_refl _ rfl)

noncomputable def r13_Largest_s1 (l : (List Df)) (kind : Int) (n1 : Int) (i : Int) : Option ((Int × Int) ⊕ Int) :=
  (bif (decide (i < ((l.length : Nat) : Int))) then (Option.bind (getI l i) (fun e => (bif (e.k == kind) then (Option.bind (getI l i) (fun e1 => some (Sum.inl ((max n1 (r13_Size_g e1)), (W64 (i + 1)))))) else some (Sum.inl (n1, (W64 (i + 1))))))) else some (Sum.inr n1))
/-- sawmill/sawmillref13.Largest -/
noncomputable def r13_Largest_g (l : (List Df)) (kind : Int) : Option Int :=
  (Option.bind ((loopO (fun q => r13_Largest_s1 l kind q.1 q.2) (0, 0)) : Option Int) (fun n => some n))
theorem r13_Largest_w (l : (List Df)) (kind : Int) (r : Int) (h : r13_Largest_g l kind = some r) : Holds Try.prog 37 [((encL encDf) l), (I kind)] [] (I r) [] := by
  unfold r13_Largest_g at h
  refine holds_fn Try.func37 rfl Try.ntmps37 rfl rfl rfl ?_
  refine awp_seq ?_
  refine awp_go hmix ?_
  refine go_run' ttok 1 rfl ?_
  refine go_nil nd ?_
  refine then_norm ?_
  refine awp_seq ?_
  refine awp_go hmix ?_
  refine go_run' ttok 1 rfl ?_
  refine go_nil nd ?_
  refine then_norm ?_
  obtain ⟨y, hx1, h⟩ := of_obind h
  refine awp_seqJ (X := Int) [] [] (fun w => [(5, (I w))]) (fun w => []) (fun w => w = y) rfl rfl ?_ ?_
  · skip
    refine awp_seq ?_
    refine awp_go hmix ?_
    refine go_run' ttok 1 rfl ?_
    refine go_nil nd ?_
    refine then_norm ?_
    refine awp_block ?_
    refine awp_loopD (X := (Int × Int)) (Y := Int) [0, 1] [] (fun q => [(5, (I q.1)), (6, (I q.2))]) (fun q => []) (fun q => r13_Largest_s1 l kind q.1 q.2) (0, 0) [] hx1 ⟨rfl, rfl, rfl, rfl, rfl, ⟨wkP_id _ rfl, wkP_id _ rfl, trivial⟩, trivial⟩ (fun x vR vz hz3 hk4 => ?_)
    obtain ⟨n1, i⟩ := x
    change r13_Largest_s1 l kind n1 i = _ at hz3
    unfold r13_Largest_s1 at hz3
    refine awp_seq ?_
    refine awp_seq ?_
    refine awp_go hmix ?_
    refine go_run' ttok 2 rfl ?_
    refine go_lenT encDf l ttok rfl rfl rfl rfl rfl rfl ?_
    refine go_run' ttok 1 rfl ?_
    refine go_nil nd ?_
    refine then_norm ?_
    refine awp_cond (b := (decide (i < ((l.length : Nat) : Int)))) rfl (fun c5 => ?_) (fun c5 => ?_)
    · replace hz3 := of_bif_t hz3 c5
      refine awp_skip ?_
      refine then_norm ?_
      refine awp_seq ?_
      refine awp_block ?_
      refine awp_seq ?_
      refine awp_go hmix ?_
      refine go_run' ttok 2 rfl ?_
      obtain ⟨e, hv6, hz3⟩ := of_obind hz3
      refine go_indexT encDf l i e hv6 ttok rfl rfl rfl rfl rfl rfl rfl rfl rfl ?_
      refine go_run' ttok 4 rfl ?_
      refine go_nil nd ?_
      refine then_norm ?_
      refine awp_cond (b := (e.k == kind)) rfl (fun c7 => ?_) (fun c7 => ?_)
      · replace hz3 := of_bif_t hz3 c7
        refine awp_go hmix ?_
        refine go_run' ttok 3 rfl ?_
        obtain ⟨e1, hv8, hz3⟩ := of_obind hz3
        refine go_indexT encDf l i e1 hv8 ttok rfl rfl rfl rfl rfl rfl rfl rfl rfl ?_
        refine go_run' ttok 1 rfl ?_
        refine go_call fn32 (r13_Size_w e1 _ rfl) rfl rfl rfl rfl rfl rfl rfl ?_
        refine go_run' ttok 2 rfl ?_
        refine go_nil nd ?_
        refine block_norm ?_
        refine then_norm ?_
        refine awp_go hmix ?_
        refine go_run' ttok 3 rfl ?_
        refine go_nil nd ?_
        have e9 := of_some hz3
        subst e9
        refine then_norm ⟨rfl, ((max n1 (r13_Size_g e1)), (W64 (i + 1))), [], ⟨rfl, rfl, rfl, rfl, rfl, ⟨wkP_id _ rfl, wkP_id _ rfl, trivial⟩, trivial⟩, hk4⟩
      · replace hz3 := of_bif_f hz3 c7
        refine awp_skip ?_
        refine block_norm ?_
        refine then_norm ?_
        refine awp_go hmix ?_
        refine go_run' ttok 3 rfl ?_
        refine go_nil nd ?_
        have e10 := of_some hz3
        subst e10
        refine then_norm ⟨rfl, (n1, (W64 (i + 1))), [], ⟨rfl, rfl, rfl, rfl, rfl, ⟨wkP_id _ rfl, wkP_id _ rfl, trivial⟩, trivial⟩, hk4⟩
    · replace hz3 := of_bif_f hz3 c5
      refine awp_exit ?_
      refine then_exit ?_
      obtain ⟨t, hn11, hq⟩ := of_mapr' hz3
      subst hq
      have hq : t = _ := hk4
      subst hq
      refine then_exit ?_
      refine block_here ?_
      have e12 := of_some hn11
      refine then_norm ⟨rfl, n1, [], ⟨rfl, rfl, rfl, rfl, rfl, ⟨wkP_id _ rfl, trivial⟩, trivial⟩, e12⟩
  · intro n hw2
    subst hw2
    refine awp_seq ?_
    refine awp_go hmix ?_
    refine go_run' ttok 2 rfl ?_
    refine go_nil nd ?_
    refine then_norm ?_
    refine awp_ret ?_
    have e13 := of_some h
    subst e13
    refine ret_ret ?_
    refine fin0 ttok rfl rfl ?_
    exact (wkP_refl _ rfl)

noncomputable def l13_DefectChecks_s1 (l : (List Df)) (i : Int) : Option (Int ⊕ (Bool ⊕ Unit)) :=
  (bif (decide (i < ((l.length : Nat) : Int))) then (Option.bind (getI l i) (fun e => (Option.bind (getI l i) (fun e1 => (bif ((defect_Size_g e) != (r13_Size_g e1)) then some (Sum.inr (Sum.inl false)) else some (Sum.inl (W64 (i + 1)))))))) else some (Sum.inr (Sum.inr ())))
/-- sawmill/sawmilllaw13.DefectChecks -/
noncomputable def l13_DefectChecks_g (l : (List Df)) (kind : Int) : Option Bool :=
  (bif (!(l13_few_g l)) then (Option.bind l13_awake_g (fun av => some av)) else (Option.bind ((loopO (fun q => l13_DefectChecks_s1 l q) 0) : Option (Bool ⊕ Unit)) (Sum.elim (fun q => some q) (fun _ => (Option.bind (defect_Check_g l) (fun cv => (Option.bind (r13_Check_g l) (fun cv1 => (bif (cv == cv1) then (Option.bind (defect_Count_g l kind) (fun cv2 => (Option.bind (r13_Count_g l kind) (fun cv3 => (bif (cv2 == cv3) then (Option.bind (defect_Largest_g l kind) (fun lv => (Option.bind (r13_Largest_g l kind) (fun lv1 => (bif (lv == lv1) then (Option.bind l13_awake_g (fun av1 => some av1)) else some false))))) else some false))))) else some false)))))))))
theorem l13_DefectChecks_w (l : (List Df)) (kind : Int) (r : Bool) (h : l13_DefectChecks_g l kind = some r) : Holds Try.prog 8 [((encL encDf) l), (I kind)] [] (B r) [] := by
  unfold l13_DefectChecks_g at h
  refine holds_fn Try.func8 rfl Try.ntmps8 rfl rfl rfl ?_
  refine awp_seq ?_
  refine awp_go hmix ?_
  refine go_run' ttok 1 rfl ?_
  refine go_nil nd ?_
  refine then_norm ?_
  refine awp_seq ?_
  refine awp_seq ?_
  refine awp_go hmix ?_
  refine go_run' ttok 1 rfl ?_
  refine go_call fn29 (l13_few_w l _ rfl) rfl rfl rfl rfl rfl rfl rfl ?_
  refine go_run' ttok 1 rfl ?_
  refine go_nil nd ?_
  refine then_norm ?_
  refine awp_cond (b := (!(l13_few_g l))) rfl (fun c1 => ?_) (fun c1 => ?_)
  · replace h := of_bif_t h c1
    refine awp_seq ?_
    refine awp_go hmix ?_
    obtain ⟨av, hv2, h⟩ := of_obind h
    refine go_call fn30 (l13_awake_w av hv2) rfl rfl rfl rfl rfl rfl rfl ?_
    refine go_run' ttok 1 rfl ?_
    refine go_nil nd ?_
    refine then_norm ?_
    refine awp_ret ?_
    refine then_ret ?_
    have e3 := of_some h
    subst e3
    refine ret_ret ?_
    refine fin0 ttok rfl rfl ?_
    exact (wkP_refl _ rfl)
  · replace h := of_bif_f h c1
    refine awp_skip ?_
    refine then_norm ?_
    obtain ⟨y, hx4, h⟩ := of_obind h
    refine awp_seqJ (X := Unit) [0, 1] [] (fun _ => []) (fun _ => []) (fun w => Sum.inr w = y) rfl rfl ?_ ?_
    · skip
      refine awp_seq ?_
      refine awp_go hmix ?_
      refine go_run' ttok 1 rfl ?_
      refine go_nil nd ?_
      refine then_norm ?_
      refine awp_block ?_
      refine awp_loopD (X := Int) (Y := (Bool ⊕ Unit)) [0, 1] [] (fun q => [(5, (I q))]) (fun q => []) (fun q => l13_DefectChecks_s1 l q) 0 [] hx4 ⟨rfl, rfl, rfl, rfl, rfl, ⟨wkP_id _ rfl, trivial⟩, trivial⟩ (fun i vR vz hz6 hk7 => ?_)
      change l13_DefectChecks_s1 l i = _ at hz6
      unfold l13_DefectChecks_s1 at hz6
      refine awp_seq ?_
      refine awp_seq ?_
      refine awp_go hmix ?_
      refine go_run' ttok 2 rfl ?_
      refine go_lenT encDf l ttok rfl rfl rfl rfl rfl rfl ?_
      refine go_run' ttok 1 rfl ?_
      refine go_nil nd ?_
      refine then_norm ?_
      refine awp_cond (b := (decide (i < ((l.length : Nat) : Int)))) rfl (fun c8 => ?_) (fun c8 => ?_)
      · replace hz6 := of_bif_t hz6 c8
        refine awp_skip ?_
        refine then_norm ?_
        refine awp_seq ?_
        refine awp_block ?_
        refine awp_seq ?_
        refine awp_go hmix ?_
        refine go_run' ttok 2 rfl ?_
        obtain ⟨e, hv9, hz6⟩ := of_obind hz6
        refine go_indexT encDf l i e hv9 ttok rfl rfl rfl rfl rfl rfl rfl rfl rfl ?_
        refine go_run' ttok 1 rfl ?_
        refine go_call fn31 (defect_Size_w e _ rfl) rfl rfl rfl rfl rfl rfl rfl ?_
        refine go_run' ttok 2 rfl ?_
        obtain ⟨e1, hv10, hz6⟩ := of_obind hz6
        refine go_indexT encDf l i e1 hv10 ttok rfl rfl rfl rfl rfl rfl rfl rfl rfl ?_
        refine go_run' ttok 1 rfl ?_
        refine go_call fn32 (r13_Size_w e1 _ rfl) rfl rfl rfl rfl rfl rfl rfl ?_
        refine go_run' ttok 1 rfl ?_
        refine go_nil (fun _ => by kernel_rfl) ?_
        refine then_norm ?_
        refine awp_cond (b := ((defect_Size_g e) != (r13_Size_g e1))) rfl (fun c11 => ?_) (fun c11 => ?_)
        · replace hz6 := of_bif_t hz6 c11
          refine awp_seq ?_
          refine awp_go hmix ?_
          refine go_run' ttok 1 rfl ?_
          refine go_nil nd ?_
          refine then_norm ?_
          refine awp_ret ?_
          refine block_ret ?_
          refine then_ret ?_
          obtain ⟨t, hn12, hq⟩ := of_mapr' hz6
          subst hq
          have hq : t = _ := hk7
          subst hq
          refine then_ret ?_
          refine block_ret ?_
          obtain ⟨t1, hn13, hq⟩ := of_mapl' hn12
          subst hq
          have hq := of_inl h
          replace hq := of_some hq
          subst hq
          refine then_ret ?_
          have e14 := of_some hn13
          subst e14
          refine ret_ret ?_
          refine fin0 ttok rfl rfl ?_
          exact (wkP_refl _ rfl)
        · replace hz6 := of_bif_f hz6 c11
          refine awp_skip ?_
          refine block_norm ?_
          refine then_norm ?_
          refine awp_go hmix ?_
          refine go_run' ttok 3 rfl ?_
          refine go_nil nd ?_
          have e15 := of_some hz6
          subst e15
          refine then_norm ⟨rfl, (W64 (i + 1)), [], ⟨rfl, rfl, rfl, rfl, rfl, ⟨wkP_id _ rfl, trivial⟩, trivial⟩, hk7⟩
      · replace hz6 := of_bif_f hz6 c8
        refine awp_exit ?_
        refine then_exit ?_
        obtain ⟨t2, hn16, hq⟩ := of_mapr' hz6
        subst hq
        have hq : t2 = _ := hk7
        subst hq
        refine then_exit ?_
        refine block_here ?_
        have e17 := of_some hn16
        refine then_norm ⟨rfl, (), [], ⟨rfl, rfl, rfl, rfl, rfl, trivial, trivial⟩, e17⟩
    · intro w hw5
      subst hw5
      replace h := of_inr h
      refine awp_seq ?_
      refine awp_go hmix ?_
      refine go_run' ttok 1 rfl ?_
      obtain ⟨cv, hv18, h⟩ := of_obind h
      refine go_call fn33 (defect_Check_w l cv hv18) rfl rfl rfl rfl rfl rfl rfl ?_
      refine go_run' ttok 1 rfl ?_
      obtain ⟨cv1, hv19, h⟩ := of_obind h
      refine go_call fn26 (r13_Check_w l cv1 hv19) rfl rfl rfl rfl rfl rfl rfl ?_
      refine go_run' ttok 2 rfl ?_
      refine go_gcase rfl rfl rfl (fun g20 => ?_) (fun g20 => ?_)
      · rw [g20]
        replace h := of_bif_t h g20
        refine go_run' ttok 2 rfl ?_
        obtain ⟨cv2, hv21, h⟩ := of_obind h
        refine go_call fn34 (defect_Count_w l kind cv2 hv21) rfl rfl rfl rfl rfl rfl rfl ?_
        refine go_run' ttok 2 rfl ?_
        obtain ⟨cv3, hv22, h⟩ := of_obind h
        refine go_call fn35 (r13_Count_w l kind cv3 hv22) rfl rfl rfl rfl rfl rfl rfl ?_
        refine go_run' ttok 3 rfl ?_
        refine go_gcase rfl rfl rfl (fun g23 => ?_) (fun g23 => ?_)
        · rw [g23]
          replace h := of_bif_t h g23
          refine go_run' ttok 2 rfl ?_
          obtain ⟨lv, hv24, h⟩ := of_obind h
          refine go_call fn36 (defect_Largest_w l kind lv hv24) rfl rfl rfl rfl rfl rfl rfl ?_
          refine go_run' ttok 2 rfl ?_
          obtain ⟨lv1, hv25, h⟩ := of_obind h
          refine go_call fn37 (r13_Largest_w l kind lv1 hv25) rfl rfl rfl rfl rfl rfl rfl ?_
          refine go_run' ttok 3 rfl ?_
          refine go_gcase rfl rfl rfl (fun g26 => ?_) (fun g26 => ?_)
          · rw [g26]
            replace h := of_bif_t h g26
            obtain ⟨av1, hv27, h⟩ := of_obind h
            refine go_call fn30 (l13_awake_w av1 hv27) rfl rfl rfl rfl rfl rfl rfl ?_
            refine go_run' ttok 2 rfl ?_
            refine go_nil nd ?_
            refine then_norm ?_
            refine awp_ret ?_
            have e28 := of_some h
            subst e28
            refine ret_ret ?_
            refine fin0 ttok rfl rfl ?_
            exact (wkP_refl _ rfl)
          · rw [g26]
            replace h := of_bif_f h g26
            refine go_run' ttok 3 rfl ?_
            refine go_nil nd ?_
            refine then_norm ?_
            refine awp_ret ?_
            have e29 := of_some h
            subst e29
            refine ret_ret ?_
            refine fin0 ttok rfl rfl ?_
            exact (wkP_refl _ rfl)
        · rw [g23]
          replace h := of_bif_f h g23
          refine go_run' ttok 12 rfl ?_
          refine go_nil nd ?_
          refine then_norm ?_
          refine awp_ret ?_
          have e30 := of_some h
          subst e30
          refine ret_ret ?_
          refine fin0 ttok rfl rfl ?_
          exact (wkP_refl _ rfl)
      · rw [g20]
        replace h := of_bif_f h g20
        refine go_run' ttok 21 rfl ?_
        refine go_nil nd ?_
        refine then_norm ?_
        refine awp_ret ?_
        have e31 := of_some h
        subst e31
        refine ret_ret ?_
        refine fin0 ttok rfl rfl ?_
        exact (wkP_refl _ rfl)

/-- sawmill/sawmillref13.Meet -/
noncomputable def r13_Meet_g (a : Bx) (b : Bx) : Bx :=
  (letB (r03_Meet_g a.x b.x) (fun mv => (letB (r03_Meet_g a.y b.y) (fun mv1 => (letB (r03_Meet_g a.z b.z) (fun mv2 => (⟨mv, mv1, mv2⟩ : Bx)))))))
theorem r13_Meet_w (a : Bx) (b : Bx) (r : Bx) (h : r13_Meet_g a b = r) : Holds Try.prog 49 [(encBx a), (encBx b)] [] (encBx r) [] := by
  unfold r13_Meet_g at h
  refine holds_fn Try.func49 rfl Try.ntmps49 rfl rfl rfl ?_
  refine awp_seq ?_
  refine awp_go hmix ?_
  refine go_run' ttok 3 rfl ?_
  refine go_nil nd ?_
  refine then_norm ?_
  refine awp_seq ?_
  refine awp_go hmix ?_
  refine go_run' ttok 4 rfl ?_
  obtain ⟨mv, hv1, h⟩ := of_let h
  refine go_call fn72 (r03_Meet_w a.x b.x mv hv1) rfl rfl rfl rfl rfl rfl rfl ?_
  refine go_run' ttok 4 rfl ?_
  obtain ⟨mv1, hv2, h⟩ := of_let h
  refine go_call fn72 (r03_Meet_w a.y b.y mv1 hv2) rfl rfl rfl rfl rfl rfl rfl ?_
  refine go_run' ttok 4 rfl ?_
  obtain ⟨mv2, hv3, h⟩ := of_let h
  refine go_call fn72 (r03_Meet_w a.z b.z mv2 hv3) rfl rfl rfl rfl rfl rfl rfl ?_
  refine go_run' ttok 2 rfl ?_
  refine go_nil (fun _ => by kernel_rfl) ?_
  refine then_norm ?_
  refine awp_ret ?_
  have e4 := h
  subst e4
  refine ret_ret ?_
  refine fin0 ttok rfl rfl ?_
  exact (wkP_refl _ rfl)

/-- sawmill/sawmillref13.Touches -/
noncomputable def r13_Touches_g (d : Df) (b : Bx) : Bool :=
  (letB (r13_Meet_g d.b b) (fun mv => (!(r13_Empty_g mv))))
theorem r13_Touches_w (d : Df) (b : Bx) (r : Bool) (h : r13_Touches_g d b = r) : Holds Try.prog 39 [(encDf d), (encBx b)] [] (B r) [] := by
  unfold r13_Touches_g at h
  refine holds_fn Try.func39 rfl Try.ntmps39 rfl rfl rfl ?_
  refine awp_seq ?_
  refine awp_go hmix ?_
  refine go_run' ttok 3 rfl ?_
  refine go_nil nd ?_
  refine then_norm ?_
  refine awp_seq ?_
  refine awp_go hmix ?_
  refine go_run' ttok 3 rfl ?_
  obtain ⟨mv, hv1, h⟩ := of_let h
  refine go_call fn49 (r13_Meet_w d.b b mv hv1) rfl rfl rfl rfl rfl rfl rfl ?_
  refine go_call fn50 (r13_Empty_w mv _ rfl) rfl rfl rfl rfl rfl rfl rfl ?_
  refine go_run' ttok 2 rfl ?_
  refine go_nil nd ?_
  refine then_norm ?_
  refine awp_ret ?_
  have e2 := h
  subst e2
  refine ret_ret ?_
  refine fin0 ttok rfl rfl ?_
  exact (wkP_refl _ rfl)

/-- sawmill/sawmillref13.bounded -/
noncomputable def r13_bounded_g (s : Sp) : Bool :=
  (bif (decide ((-1099511627776) ≤ s.a)) then (bif (decide (s.a ≤ 1099511627776)) then (bif (decide ((-1099511627776) ≤ s.b)) then (decide (s.b ≤ 1099511627776)) else false) else false) else false)
theorem r13_bounded_w (s : Sp) (r : Bool) (h : r13_bounded_g s = r) : Holds Try.prog 65 [(encSp s)] [] (B r) [] := by
  unfold r13_bounded_g at h
  refine holds_fn Try.func65 rfl Try.ntmps65 rfl rfl rfl ?_
  refine awp_seq ?_
  refine awp_go hmix ?_
  refine go_run' ttok 2 rfl ?_
  refine go_nil nd ?_
  refine then_norm ?_
  refine awp_seq ?_
  refine awp_go hmix ?_
  refine go_run' ttok 4 rfl ?_
  refine go_gcase rfl rfl rfl (fun g1 => ?_) (fun g1 => ?_)
  · rw [g1]
    replace h := of_bif_t h g1
    refine go_run' ttok 5 rfl ?_
    refine go_gcase rfl rfl rfl (fun g2 => ?_) (fun g2 => ?_)
    · rw [g2]
      replace h := of_bif_t h g2
      refine go_run' ttok 5 rfl ?_
      refine go_gcase rfl rfl rfl (fun g3 => ?_) (fun g3 => ?_)
      · rw [g3]
        replace h := of_bif_t h g3
        refine go_run' ttok 5 rfl ?_
        refine go_nil nd ?_
        refine then_norm ?_
        refine awp_ret ?_
        have e4 := h
        subst e4
        refine ret_ret ?_
        refine fin0 ttok rfl rfl ?_
        exact (wkP_refl _ rfl)
      · rw [g3]
        replace h := of_bif_f h g3
        refine go_run' ttok 5 rfl ?_
        refine go_nil nd ?_
        refine then_norm ?_
        refine awp_ret ?_
        have e5 := h
        subst e5
        refine ret_ret ?_
        refine fin0 ttok rfl rfl ?_
        exact (wkP_refl _ rfl)
    · rw [g2]
      replace h := of_bif_f h g2
      refine go_run' ttok 10 rfl ?_
      refine go_nil nd ?_
      refine then_norm ?_
      refine awp_ret ?_
      have e6 := h
      subst e6
      refine ret_ret ?_
      refine fin0 ttok rfl rfl ?_
      exact (wkP_refl _ rfl)
  · rw [g1]
    replace h := of_bif_f h g1
    refine go_run' ttok 15 rfl ?_
    refine go_nil nd ?_
    refine then_norm ?_
    refine awp_ret ?_
    have e7 := h
    subst e7
    refine ret_ret ?_
    refine fin0 ttok rfl rfl ?_
    exact (wkP_refl _ rfl)

/-- sawmill/sawmillref13.by -/
noncomputable def r13_by_g (s : Sp) (n : Int) : Sp :=
  (⟨(W64 (s.a + n)), (W64 (s.b + n))⟩ : Sp)
theorem r13_by_w (s : Sp) (n : Int) (r : Sp) (h : r13_by_g s n = r) : Holds Try.prog 73 [(encSp s), (I n)] [] (encSp r) [] := by
  unfold r13_by_g at h
  refine holds_fn Try.func73 rfl Try.ntmps73 rfl rfl rfl ?_
  refine awp_seq ?_
  refine awp_go hmix ?_
  refine go_run' ttok 2 rfl ?_
  refine go_nil nd ?_
  refine then_norm ?_
  refine awp_seq ?_
  refine awp_go hmix ?_
  refine go_run' ttok 10 rfl ?_
  refine go_nil nd ?_
  refine then_norm ?_
  refine awp_ret ?_
  have e1 := h
  subst e1
  refine ret_ret ?_
  refine fin0 ttok rfl rfl ?_
  exact (wkP_refl _ rfl)

/-- sawmill/sawmillref13.Move -/
noncomputable def r13_Move_g (b : Bx) (x : Int) (y : Int) (vz : Int) : Bx :=
  (letB (r13_by_g b.x x) (fun bv => (letB (r13_by_g b.y y) (fun bv1 => (letB (r13_by_g b.z vz) (fun bv2 => (⟨bv, bv1, bv2⟩ : Bx)))))))
theorem r13_Move_w (b : Bx) (x : Int) (y : Int) (vz : Int) (r : Bx) (h : r13_Move_g b x y vz = r) : Holds Try.prog 51 [(encBx b), (I x), (I y), (I vz)] [] (encBx r) [] := by
  unfold r13_Move_g at h
  refine holds_fn Try.func51 rfl Try.ntmps51 rfl rfl rfl ?_
  refine awp_seq ?_
  refine awp_go hmix ?_
  refine go_run' ttok 2 rfl ?_
  refine go_nil nd ?_
  refine then_norm ?_
  refine awp_seq ?_
  refine awp_go hmix ?_
  refine go_run' ttok 3 rfl ?_
  obtain ⟨bv, hv1, h⟩ := of_let h
  refine go_call fn73 (r13_by_w b.x x bv hv1) rfl rfl rfl rfl rfl rfl rfl ?_
  refine go_run' ttok 3 rfl ?_
  obtain ⟨bv1, hv2, h⟩ := of_let h
  refine go_call fn73 (r13_by_w b.y y bv1 hv2) rfl rfl rfl rfl rfl rfl rfl ?_
  refine go_run' ttok 3 rfl ?_
  obtain ⟨bv2, hv3, h⟩ := of_let h
  refine go_call fn73 (r13_by_w b.z vz bv2 hv3) rfl rfl rfl rfl rfl rfl rfl ?_
  refine go_run' ttok 2 rfl ?_
  refine go_nil (fun _ => by kernel_rfl) ?_
  refine then_norm ?_
  refine awp_ret ?_
  have e4 := h
  subst e4
  refine ret_ret ?_
  refine fin0 ttok rfl rfl ?_
  exact (wkP_refl _ rfl)

noncomputable def r13_Clip_s1 (l : (List Df)) (b : Bx) (out1 : (List Df)) (i : Int) : Option (((List Df) × Int) ⊕ (List Df)) :=
  (bif (decide (i < ((l.length : Nat) : Int))) then (Option.bind (getI l i) (fun e => (bif (r13_Touches_g e b) then (Option.bind (getI l i) (fun e1 => (Option.bind (getI l i) (fun e2 => (letB (r13_Meet_g e2.b b) (fun mv => (letB (r13_Move_g mv (W64 (0 - b.x.a)) (W64 (0 - b.y.a)) (W64 (0 - b.z.a))) (fun mv1 => (Option.bind (appO 56 out1 ([(⟨e1.k, mv1⟩ : Df)])) (fun l1 => some (Sum.inl (l1, (W64 (i + 1)))))))))))))) else some (Sum.inl (out1, (W64 (i + 1))))))) else some (Sum.inr out1))
/-- sawmill/sawmillref13.Clip -/
noncomputable def r13_Clip_g (l : (List Df)) (b : Bx) : Option (List Df) :=
  (Option.bind (r13_Check_g l) (fun cv => (bif (cv != 0) then some ([]) else (bif (!(r13_bounded_g b.x)) then some ([]) else (bif (!(r13_bounded_g b.y)) then some ([]) else (bif (!(r13_bounded_g b.z)) then some ([]) else (Option.bind ((loopO (fun q => r13_Clip_s1 l b q.1 q.2) ([], 0)) : Option (List Df)) (fun out => some out))))))))
theorem r13_Clip_w (l : (List Df)) (b : Bx) (r : (List Df)) (h : r13_Clip_g l b = some r) : Holds Try.prog 42 [((encL encDf) l), (encBx b)] [] ((encL encDf) r) [] := by
  unfold r13_Clip_g at h
  refine holds_fn Try.func42 rfl Try.ntmps42 rfl rfl rfl ?_
  refine awp_seq ?_
  refine awp_go hmix ?_
  refine go_run' ttok 2 rfl ?_
  refine go_nil nd ?_
  refine then_norm ?_
  refine awp_seq ?_
  refine awp_seq ?_
  refine awp_go hmix ?_
  refine go_run' ttok 1 rfl ?_
  obtain ⟨cv, hv1, h⟩ := of_obind h
  refine go_call fn26 (r13_Check_w l cv hv1) rfl rfl rfl rfl rfl rfl rfl ?_
  refine go_run' ttok 2 rfl ?_
  refine go_gcase rfl rfl rfl (fun g2 => ?_) (fun g2 => ?_)
  · rw [g2]
    replace h := of_bif_t h g2
    refine go_run' ttok 17 rfl ?_
    refine go_nil nd ?_
    refine then_norm ?_
    refine awp_cond rfl (fun tt0 => ?_) (fun h => by cases h)
    clear tt0
    refine awp_seq ?_
    refine awp_go hmix ?_
    refine go_run' ttok 1 rfl ?_
    refine go_nil nd ?_
    refine then_norm ?_
    refine awp_ret ?_
    refine then_ret ?_
    have e3 := of_some h
    subst e3
    refine ret_ret ?_
    refine fin0 ttok rfl rfl ?_
    exact wkP_nilm
  · rw [g2]
    replace h := of_bif_f h g2
    refine go_run' ttok 2 rfl ?_
    refine go_call fn65 (r13_bounded_w b.x _ rfl) rfl rfl rfl rfl rfl rfl rfl ?_
    refine go_run' ttok 3 rfl ?_
    refine go_gcase rfl rfl rfl (fun g4 => ?_) (fun g4 => ?_)
    · rw [g4]
      replace h := of_bif_t h g4
      refine go_run' ttok 11 rfl ?_
      refine go_nil nd ?_
      refine then_norm ?_
      refine awp_cond rfl (fun tt0 => ?_) (fun h => by cases h)
      clear tt0
      refine awp_seq ?_
      refine awp_go hmix ?_
      refine go_run' ttok 1 rfl ?_
      refine go_nil nd ?_
      refine then_norm ?_
      refine awp_ret ?_
      refine then_ret ?_
      have e5 := of_some h
      subst e5
      refine ret_ret ?_
      refine fin0 ttok rfl rfl ?_
      exact wkP_nilm
    · rw [g4]
      replace h := of_bif_f h g4
      refine go_run' ttok 2 rfl ?_
      refine go_call fn65 (r13_bounded_w b.y _ rfl) rfl rfl rfl rfl rfl rfl rfl ?_
      refine go_run' ttok 3 rfl ?_
      refine go_gcase rfl rfl rfl (fun g6 => ?_) (fun g6 => ?_)
      · rw [g6]
        replace h := of_bif_t h g6
        refine go_run' ttok 5 rfl ?_
        refine go_nil nd ?_
        refine then_norm ?_
        refine awp_cond rfl (fun tt0 => ?_) (fun h => by cases h)
        clear tt0
        refine awp_seq ?_
        refine awp_go hmix ?_
        refine go_run' ttok 1 rfl ?_
        refine go_nil nd ?_
        refine then_norm ?_
        refine awp_ret ?_
        refine then_ret ?_
        have e7 := of_some h
        subst e7
        refine ret_ret ?_
        refine fin0 ttok rfl rfl ?_
        exact wkP_nilm
      · rw [g6]
        replace h := of_bif_f h g6
        refine go_run' ttok 2 rfl ?_
        refine go_call fn65 (r13_bounded_w b.z _ rfl) rfl rfl rfl rfl rfl rfl rfl ?_
        refine go_run' ttok 2 rfl ?_
        refine go_nil nd ?_
        refine then_norm ?_
        refine awp_cond (b := (!(r13_bounded_g b.z))) rfl (fun c8 => ?_) (fun c8 => ?_)
        · replace h := of_bif_t h c8
          refine awp_seq ?_
          refine awp_go hmix ?_
          refine go_run' ttok 1 rfl ?_
          refine go_nil nd ?_
          refine then_norm ?_
          refine awp_ret ?_
          refine then_ret ?_
          have e9 := of_some h
          subst e9
          refine ret_ret ?_
          refine fin0 ttok rfl rfl ?_
          exact wkP_nilm
        · replace h := of_bif_f h c8
          refine awp_skip ?_
          refine then_norm ?_
          refine awp_seq ?_
          refine awp_go hmix ?_
          refine go_run' ttok 1 rfl ?_
          refine go_nil nd ?_
          refine then_norm ?_
          obtain ⟨y, hx10, h⟩ := of_obind h
          refine awp_seqJ (X := (List Df)) [] [] (fun w => [(5, (.arr 5 0 w.length))]) (fun w => [(5, some ⟨41, 7, w.map encDf⟩)]) (fun w => w = y) rfl rfl ?_ ?_
          · skip
            refine awp_seq ?_
            refine awp_go hmix ?_
            refine go_run' ttok 1 rfl ?_
            refine go_nil nd ?_
            refine then_norm ?_
            refine awp_block ?_
            refine awp_loopD (X := ((List Df) × Int)) (Y := (List Df)) [0, 3] [3] (fun q => [(5, (.arr 5 0 q.1.length)), (6, (I q.2))]) (fun q => [(5, some ⟨41, 7, q.1.map encDf⟩)]) (fun q => r13_Clip_s1 l b q.1 q.2) ([], 0) [(5, none), (3, some 3)] hx10 ⟨rfl, rfl, rfl, rfl, rfl, ⟨⟨rfl, rfl, (by first | rfl | simp [setI])⟩, wkP_id _ rfl, trivial⟩, ⟨rfl, trivial⟩⟩ (fun x vR vz hz12 hk13 => ?_)
            obtain ⟨out1, i⟩ := x
            change r13_Clip_s1 l b out1 i = _ at hz12
            unfold r13_Clip_s1 at hz12
            refine awp_seq ?_
            refine awp_seq ?_
            refine awp_go hmix ?_
            refine go_run' ttok 2 rfl ?_
            refine go_lenT encDf l ttok rfl rfl rfl rfl rfl rfl ?_
            refine go_run' ttok 1 rfl ?_
            refine go_nil nd ?_
            refine then_norm ?_
            refine awp_cond (b := (decide (i < ((l.length : Nat) : Int)))) rfl (fun c14 => ?_) (fun c14 => ?_)
            · replace hz12 := of_bif_t hz12 c14
              refine awp_skip ?_
              refine then_norm ?_
              refine awp_seq ?_
              refine awp_block ?_
              refine awp_seq ?_
              refine awp_go hmix ?_
              refine go_run' ttok 2 rfl ?_
              obtain ⟨e, hv15, hz12⟩ := of_obind hz12
              refine go_indexT encDf l i e hv15 ttok rfl rfl rfl rfl rfl rfl rfl rfl rfl ?_
              refine go_run' ttok 2 rfl ?_
              refine go_call fn39 (r13_Touches_w e b _ rfl) rfl rfl rfl rfl rfl rfl rfl ?_
              refine go_nil (fun _ => by kernel_rfl) ?_
              refine then_norm ?_
              refine awp_cond (b := (r13_Touches_g e b)) rfl (fun c16 => ?_) (fun c16 => ?_)
              · replace hz12 := of_bif_t hz12 c16
                refine awp_go hmix ?_
                refine go_run' ttok 3 rfl ?_
                obtain ⟨e1, hv17, hz12⟩ := of_obind hz12
                refine go_indexT encDf l i e1 hv17 ttok rfl rfl rfl rfl rfl rfl rfl rfl rfl ?_
                refine go_run' ttok 4 rfl ?_
                obtain ⟨e2, hv18, hz12⟩ := of_obind hz12
                refine go_indexT encDf l i e2 hv18 ttok rfl rfl rfl rfl rfl rfl rfl rfl rfl ?_
                refine go_run' ttok 3 rfl ?_
                obtain ⟨mv, hv19, hz12⟩ := of_let hz12
                refine go_call fn49 (r13_Meet_w e2.b b mv hv19) rfl rfl rfl rfl rfl rfl rfl ?_
                refine go_run' ttok 12 rfl ?_
                obtain ⟨mv1, hv20, hz12⟩ := of_let hz12
                refine go_call fn51 (r13_Move_w mv (W64 (0 - b.x.a)) (W64 (0 - b.y.a)) (W64 (0 - b.z.a)) mv1 hv20) rfl rfl rfl rfl rfl rfl rfl ?_
                refine go_run' ttok 2 rfl ?_
                obtain ⟨l1, hv21, hz12⟩ := of_obind hz12
                refine go_appT encDf out1 ([(⟨e1.k, mv1⟩ : Df)]) l1 hv21 (fun _ => rfl) (by first | rfl | simp [setI]) (by first | rfl | simp [setI]) ttok rfl rfl rfl rfl rfl rfl rfl rfl rfl rfl rfl rfl rfl rfl rfl rfl rfl ?_
                refine go_run' ttok 1 rfl ?_
                refine go_nil (fun _ => by kernel_rfl) ?_
                refine block_norm ?_
                refine then_norm ?_
                refine awp_go hmix ?_
                refine go_run' ttok 3 rfl ?_
                refine go_nil nd ?_
                have e22 := of_some hz12
                subst e22
                refine then_norm ⟨rfl, (l1, (W64 (i + 1))), [(5, some 68), (3, some 3)], ⟨rfl, rfl, rfl, rfl, rfl, ⟨⟨rfl, rfl, (by first | rfl | simp [setI])⟩, wkP_id _ rfl, trivial⟩, ⟨⟨_, rfl, rfl, rfl, wkX_map (enc := encDf) l1 (fun _ => rfl)⟩, trivial⟩⟩, hk13⟩
              · replace hz12 := of_bif_f hz12 c16
                refine awp_skip ?_
                refine block_norm ?_
                refine then_norm ?_
                refine awp_go hmix ?_
                refine go_run' ttok 3 rfl ?_
                refine go_nil nd ?_
                have e23 := of_some hz12
                subst e23
                refine then_norm ⟨rfl, (out1, (W64 (i + 1))), [(5, some 5), (3, some 3)], ⟨rfl, rfl, rfl, rfl, rfl, ⟨⟨rfl, rfl, (by first | rfl | simp [setI])⟩, wkP_id _ rfl, trivial⟩, ⟨⟨_, rfl, rfl, rfl, wkX_map (enc := encDf) out1 (fun _ => rfl)⟩, trivial⟩⟩, hk13⟩
            · replace hz12 := of_bif_f hz12 c14
              refine awp_exit ?_
              refine then_exit ?_
              obtain ⟨t, hn24, hq⟩ := of_mapr' hz12
              subst hq
              have hq : t = _ := hk13
              subst hq
              refine then_exit ?_
              refine block_here ?_
              have e25 := of_some hn24
              refine then_norm ⟨rfl, out1, [(5, some 5)], ⟨rfl, rfl, rfl, rfl, rfl, ⟨⟨rfl, rfl, (by first | rfl | simp [setI])⟩, trivial⟩, ⟨⟨_, rfl, rfl, rfl, wkX_map (enc := encDf) out1 (fun _ => rfl)⟩, trivial⟩⟩, e25⟩
          · intro out hw11
            subst hw11
            refine awp_seq ?_
            refine awp_go hmix ?_
            refine go_run' ttok 2 rfl ?_
            refine go_nil nd ?_
            refine then_norm ?_
            refine awp_freezeM [] [] [(5, some ⟨41, 7, out.map encDf⟩)] [] [(4, (encL encDf out))] [] rfl rfl rfl rfl rfl ⟨rfl, by decide, trivial⟩ ⟨(wkP_lend rfl (by first | rfl | simp [setI]) (fun _ => rfl)), trivial⟩ trivial ?_
            refine awp_ret ?_
            have e26 := of_some h
            subst e26
            refine ret_ret ?_
            refine fin0 ttok rfl rfl ?_
            exact (wkP_refl _ rfl)

noncomputable def l13_DefectClips_s1 (l : (List Df)) (b : Bx) (i : Int) : Option (Int ⊕ (Bool ⊕ Unit)) :=
  (bif (decide (i < ((l.length : Nat) : Int))) then (Option.bind (getI l i) (fun e => (Option.bind (getI l i) (fun e1 => (bif (!((defect_Touches_g e b) == (r13_Touches_g e1 b))) then some (Sum.inr (Sum.inl false)) else some (Sum.inl (W64 (i + 1)))))))) else some (Sum.inr (Sum.inr ())))
/-- sawmill/sawmilllaw13.DefectClips -/
noncomputable def l13_DefectClips_g (l : (List Df)) (b : Bx) : Option Bool :=
  (bif (!(l13_few_g l)) then (Option.bind l13_awake_g (fun av => some av)) else (Option.bind ((loopO (fun q => l13_DefectClips_s1 l b q) 0) : Option (Bool ⊕ Unit)) (Sum.elim (fun q => some q) (fun _ => (Option.bind (defect_Clip_g l b) (fun cv => (Option.bind (r13_Clip_g l b) (fun cv1 => (Option.bind (r13_Same_g cv cv1) (fun sv => (bif sv then (Option.bind l13_awake_g (fun av1 => some av1)) else some false)))))))))))
theorem l13_DefectClips_w (l : (List Df)) (b : Bx) (r : Bool) (h : l13_DefectClips_g l b = some r) : Holds Try.prog 9 [((encL encDf) l), (encBx b)] [] (B r) [] := by
  unfold l13_DefectClips_g at h
  refine holds_fn Try.func9 rfl Try.ntmps9 rfl rfl rfl ?_
  refine awp_seq ?_
  refine awp_go hmix ?_
  refine go_run' ttok 2 rfl ?_
  refine go_nil nd ?_
  refine then_norm ?_
  refine awp_seq ?_
  refine awp_seq ?_
  refine awp_go hmix ?_
  refine go_run' ttok 1 rfl ?_
  refine go_call fn29 (l13_few_w l _ rfl) rfl rfl rfl rfl rfl rfl rfl ?_
  refine go_run' ttok 1 rfl ?_
  refine go_nil nd ?_
  refine then_norm ?_
  refine awp_cond (b := (!(l13_few_g l))) rfl (fun c1 => ?_) (fun c1 => ?_)
  · replace h := of_bif_t h c1
    refine awp_seq ?_
    refine awp_go hmix ?_
    obtain ⟨av, hv2, h⟩ := of_obind h
    refine go_call fn30 (l13_awake_w av hv2) rfl rfl rfl rfl rfl rfl rfl ?_
    refine go_run' ttok 1 rfl ?_
    refine go_nil nd ?_
    refine then_norm ?_
    refine awp_ret ?_
    refine then_ret ?_
    have e3 := of_some h
    subst e3
    refine ret_ret ?_
    refine fin0 ttok rfl rfl ?_
    exact (wkP_refl _ rfl)
  · replace h := of_bif_f h c1
    refine awp_skip ?_
    refine then_norm ?_
    obtain ⟨y, hx4, h⟩ := of_obind h
    refine awp_seqJ (X := Unit) [0, 3] [3] (fun _ => []) (fun _ => []) (fun w => Sum.inr w = y) rfl rfl ?_ ?_
    · skip
      refine awp_seq ?_
      refine awp_go hmix ?_
      refine go_run' ttok 1 rfl ?_
      refine go_nil nd ?_
      refine then_norm ?_
      refine awp_block ?_
      refine awp_loopD (X := Int) (Y := (Bool ⊕ Unit)) [0, 3] [3] (fun q => [(5, (I q))]) (fun q => []) (fun q => l13_DefectClips_s1 l b q) 0 [(3, some 3)] hx4 ⟨rfl, rfl, rfl, rfl, rfl, ⟨wkP_id _ rfl, trivial⟩, trivial⟩ (fun i vR vz hz6 hk7 => ?_)
      change l13_DefectClips_s1 l b i = _ at hz6
      unfold l13_DefectClips_s1 at hz6
      refine awp_seq ?_
      refine awp_seq ?_
      refine awp_go hmix ?_
      refine go_run' ttok 2 rfl ?_
      refine go_lenT encDf l ttok rfl rfl rfl rfl rfl rfl ?_
      refine go_run' ttok 1 rfl ?_
      refine go_nil nd ?_
      refine then_norm ?_
      refine awp_cond (b := (decide (i < ((l.length : Nat) : Int)))) rfl (fun c8 => ?_) (fun c8 => ?_)
      · replace hz6 := of_bif_t hz6 c8
        refine awp_skip ?_
        refine then_norm ?_
        refine awp_seq ?_
        refine awp_block ?_
        refine awp_seq ?_
        refine awp_go hmix ?_
        refine go_run' ttok 2 rfl ?_
        obtain ⟨e, hv9, hz6⟩ := of_obind hz6
        refine go_indexT encDf l i e hv9 ttok rfl rfl rfl rfl rfl rfl rfl rfl rfl ?_
        refine go_run' ttok 2 rfl ?_
        refine go_call fn38 (defect_Touches_w e b _ rfl) rfl rfl rfl rfl rfl rfl rfl ?_
        refine go_run' ttok 2 rfl ?_
        obtain ⟨e1, hv10, hz6⟩ := of_obind hz6
        refine go_indexT encDf l i e1 hv10 ttok rfl rfl rfl rfl rfl rfl rfl rfl rfl ?_
        refine go_run' ttok 2 rfl ?_
        refine go_call fn39 (r13_Touches_w e1 b _ rfl) rfl rfl rfl rfl rfl rfl rfl ?_
        refine go_step rfl (as_neBool rfl (ttok _ _ rfl) rfl rfl rfl) rfl rfl rfl ?_
        refine go_nil (fun _ => by kernel_rfl) ?_
        refine then_norm ?_
        refine awp_cond (b := (!((defect_Touches_g e b) == (r13_Touches_g e1 b)))) rfl (fun c11 => ?_) (fun c11 => ?_)
        · replace hz6 := of_bif_t hz6 c11
          refine awp_seq ?_
          refine awp_go hmix ?_
          refine go_run' ttok 1 rfl ?_
          refine go_nil nd ?_
          refine then_norm ?_
          refine awp_ret ?_
          refine block_ret ?_
          refine then_ret ?_
          obtain ⟨t, hn12, hq⟩ := of_mapr' hz6
          subst hq
          have hq : t = _ := hk7
          subst hq
          refine then_ret ?_
          refine block_ret ?_
          obtain ⟨t1, hn13, hq⟩ := of_mapl' hn12
          subst hq
          have hq := of_inl h
          replace hq := of_some hq
          subst hq
          refine then_ret ?_
          have e14 := of_some hn13
          subst e14
          refine ret_ret ?_
          refine fin0 ttok rfl rfl ?_
          exact (wkP_refl _ rfl)
        · replace hz6 := of_bif_f hz6 c11
          refine awp_skip ?_
          refine block_norm ?_
          refine then_norm ?_
          refine awp_go hmix ?_
          refine go_run' ttok 3 rfl ?_
          refine go_nil nd ?_
          have e15 := of_some hz6
          subst e15
          refine then_norm ⟨rfl, (W64 (i + 1)), [(3, some 3)], ⟨rfl, rfl, rfl, rfl, rfl, ⟨wkP_id _ rfl, trivial⟩, trivial⟩, hk7⟩
      · replace hz6 := of_bif_f hz6 c8
        refine awp_exit ?_
        refine then_exit ?_
        obtain ⟨t2, hn16, hq⟩ := of_mapr' hz6
        subst hq
        have hq : t2 = _ := hk7
        subst hq
        refine then_exit ?_
        refine block_here ?_
        have e17 := of_some hn16
        refine then_norm ⟨rfl, (), [(3, some 3)], ⟨rfl, rfl, rfl, rfl, rfl, trivial, trivial⟩, e17⟩
    · intro w hw5
      subst hw5
      replace h := of_inr h
      refine awp_seq ?_
      refine awp_go hmix ?_
      refine go_run' ttok 2 rfl ?_
      obtain ⟨cv, hv18, h⟩ := of_obind h
      refine go_call fn41 (defect_Clip_w l b cv hv18) rfl rfl rfl rfl rfl rfl rfl ?_
      refine go_run' ttok 2 rfl ?_
      obtain ⟨cv1, hv19, h⟩ := of_obind h
      refine go_call fn42 (r13_Clip_w l b cv1 hv19) rfl rfl rfl rfl rfl rfl rfl ?_
      obtain ⟨sv, hv20, h⟩ := of_obind h
      refine go_call fn40 (r13_Same_w cv cv1 sv hv20) rfl rfl rfl rfl rfl rfl rfl ?_
      refine go_run' ttok 1 rfl ?_
      refine go_gcase rfl rfl rfl (fun g21 => ?_) (fun g21 => ?_)
      · rw [g21]
        replace h := of_bif_t h g21
        obtain ⟨av1, hv22, h⟩ := of_obind h
        refine go_call fn30 (l13_awake_w av1 hv22) rfl rfl rfl rfl rfl rfl rfl ?_
        refine go_run' ttok 2 rfl ?_
        refine go_nil (fun _ => by kernel_rfl) ?_
        refine then_norm ?_
        refine awp_ret ?_
        have e23 := of_some h
        subst e23
        refine ret_ret ?_
        refine fin0 ttok rfl rfl ?_
        exact (wkP_refl _ rfl)
      · rw [g21]
        replace h := of_bif_f h g21
        refine go_run' ttok 3 rfl ?_
        refine go_nil (fun _ => by kernel_rfl) ?_
        refine then_norm ?_
        refine awp_ret ?_
        have e24 := of_some h
        subst e24
        refine ret_ret ?_
        refine fin0 ttok rfl rfl ?_
        exact (wkP_refl _ rfl)

/-- sawmill/sawmillref09.Quarters -/
noncomputable def r09_Quarters_g (n : Int) : Int :=
  (Int.tmod (W64 ((Int.tmod n 4) + 4)) 4)
theorem r09_Quarters_w (n : Int) (r : Int) (h : r09_Quarters_g n = r) : Holds Try.prog 66 [(I n)] [] (I r) [] := by
  unfold r09_Quarters_g at h
  refine holds_fn Try.func66 rfl Try.ntmps66 rfl rfl rfl ?_
  refine awp_seq ?_
  refine awp_go hmix ?_
  refine go_run' ttok 1 rfl ?_
  refine go_nil nd ?_
  refine then_norm ?_
  refine awp_seq ?_
  refine awp_go hmix ?_
  refine go_run' ttok 5 rfl ?_
  refine go_nil nd ?_
  refine then_norm ?_
  refine awp_ret ?_
  have e1 := h
  subst e1
  refine ret_ret ?_
  refine fin0 ttok rfl rfl ?_
  exact (wkP_refl _ rfl)

/-- sawmill/sawmillref13.Quarter -/
noncomputable def r13_Quarter_g (b : Bx) : Bx :=
  (⟨(⟨(W64 (0 - b.y.b)), (W64 (0 - b.y.a))⟩ : Sp), b.x, b.z⟩ : Bx)
theorem r13_Quarter_w (b : Bx) (r : Bx) (h : r13_Quarter_g b = r) : Holds Try.prog 67 [(encBx b)] [] (encBx r) [] := by
  unfold r13_Quarter_g at h
  refine holds_fn Try.func67 rfl Try.ntmps67 rfl rfl rfl ?_
  refine awp_seq ?_
  refine awp_go hmix ?_
  refine go_run' ttok 2 rfl ?_
  refine go_nil nd ?_
  refine then_norm ?_
  refine awp_seq ?_
  refine awp_go hmix ?_
  refine go_run' ttok 15 rfl ?_
  refine go_nil nd ?_
  refine then_norm ?_
  refine awp_ret ?_
  have e1 := h
  subst e1
  refine ret_ret ?_
  refine fin0 ttok rfl rfl ?_
  exact (wkP_refl _ rfl)

end Go.Proofs.Ytbgoflekklfdjaa
