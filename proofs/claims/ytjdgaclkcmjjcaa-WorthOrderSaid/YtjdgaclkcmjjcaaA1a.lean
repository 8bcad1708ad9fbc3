/- A1a: what functions of the program compute (written by mod.py). -/
import Derived.Test.YtjdgaclkcmjjcaaTy
import Derived.KernelRfl
namespace Go.Proofs.Ytjdgaclkcmjjcaa
open Go Go.Ab
set_option linter.unusedSimpArgs false
set_option linter.unusedVariables false
set_option maxRecDepth 20000

/-- sawmill/worth.isStep -/
noncomputable def worth_isStep_g (n : Int) : Bool :=
  (bif (decide (1 ≤ n)) then (decide (n ≤ 20000)) else false)
theorem worth_isStep_w (n : Int) (r : Bool) (h : worth_isStep_g n = r) : Holds Try.prog 29 [(I n)] [] (B r) [] := by
  unfold worth_isStep_g at h
  refine holds_fn Try.func29 rfl Try.ntmps29 rfl rfl rfl ?_
  refine awp_seq ?_
  refine awp_go hmix ?_
  refine go_run' ttok 1 rfl ?_
  refine go_nil nd ?_
  refine then_norm ?_
  refine awp_seq ?_
  refine awp_go hmix ?_
  refine go_run' ttok 3 rfl ?_
  refine go_gcase rfl rfl rfl (fun g1 => ?_) (fun g1 => ?_)
  · rw [g1]
    replace h := of_bif_t h g1
    refine go_run' ttok 4 rfl ?_
    refine go_nil nd ?_
    refine then_norm ?_
    refine awp_ret ?_
    have e2 := h
    subst e2
    refine ret_ret ?_
    refine fin0 ttok rfl rfl ?_
    exact (wkP_refl _ rfl)
  · rw [g1]
    replace h := of_bif_f h g1
    refine go_run' ttok 4 rfl ?_
    refine go_nil nd ?_
    refine then_norm ?_
    refine awp_ret ?_
    have e3 := h
    subst e3
    refine ret_ret ?_
    refine fin0 ttok rfl rfl ?_
    exact (wkP_refl _ rfl)

/-- sawmill/worth.isFine -/
noncomputable def worth_isFine_g (n : Int) : Bool :=
  (bif (decide (0 ≤ n)) then (decide (n ≤ 1000000)) else false)
theorem worth_isFine_w (n : Int) (r : Bool) (h : worth_isFine_g n = r) : Holds Try.prog 30 [(I n)] [] (B r) [] := by
  unfold worth_isFine_g at h
  refine holds_fn Try.func30 rfl Try.ntmps30 rfl rfl rfl ?_
  refine awp_seq ?_
  refine awp_go hmix ?_
  refine go_run' ttok 1 rfl ?_
  refine go_nil nd ?_
  refine then_norm ?_
  refine awp_seq ?_
  refine awp_go hmix ?_
  refine go_run' ttok 3 rfl ?_
  refine go_gcase rfl rfl rfl (fun g1 => ?_) (fun g1 => ?_)
  · rw [g1]
    replace h := of_bif_t h g1
    refine go_run' ttok 4 rfl ?_
    refine go_nil nd ?_
    refine then_norm ?_
    refine awp_ret ?_
    have e2 := h
    subst e2
    refine ret_ret ?_
    refine fin0 ttok rfl rfl ?_
    exact (wkP_refl _ rfl)
  · rw [g1]
    replace h := of_bif_f h g1
    refine go_run' ttok 4 rfl ?_
    refine go_nil nd ?_
    refine then_norm ?_
    refine awp_ret ?_
    have e3 := h
    subst e3
    refine ret_ret ?_
    refine fin0 ttok rfl rfl ?_
    exact (wkP_refl _ rfl)

/-- sawmill/worth.Check -/
noncomputable def worth_Check_g (s : TSaw) (vr : TRates) : Int :=
  (bif (decide (s.Kerf < 0)) then 9 else (bif (decide (20 < s.Kerf)) then 9 else (bif (decide (s.Trim < 0)) then 9 else (bif (decide (20 < s.Trim)) then 9 else (bif (decide (s.Pitch < 1)) then 9 else (bif (decide (2000 < s.Pitch)) then 9 else (bif (!(worth_isStep_g s.Step)) then 9 else (bif (decide (vr.Chip < 0)) then 9 else (bif (decide (1000 < vr.Chip)) then 9 else (bif (decide (vr.Dust < 0)) then 9 else (bif (decide (1000 < vr.Dust)) then 9 else (bif (!(worth_isFine_g vr.Fine)) then 9 else 0))))))))))))
theorem worth_Check_w (s : TSaw) (vr : TRates) (r : Int) (h : worth_Check_g s vr = r) : Holds Try.prog 11 [(encTSaw s), (encTRates vr)] [] (I r) [] := by
  unfold worth_Check_g at h
  refine holds_fn Try.func11 rfl Try.ntmps11 rfl rfl rfl ?_
  refine awp_seq ?_
  refine awp_go hmix ?_
  refine go_run' ttok 3 rfl ?_
  refine go_nil nd ?_
  refine then_norm ?_
  refine awp_seq ?_
  refine awp_seq ?_
  refine awp_go hmix ?_
  refine go_run' ttok 4 rfl ?_
  refine go_gcase rfl rfl rfl (fun g1 => ?_) (fun g1 => ?_)
  · rw [g1]
    replace h := of_bif_t h g1
    refine go_run' ttok 14 rfl ?_
    refine go_nil nd ?_
    refine then_norm ?_
    refine awp_cond rfl (fun tt0 => ?_) (fun h => by cases h)
    clear tt0
    refine awp_seq ?_
    refine awp_go hmix ?_
    refine go_run' ttok 1 rfl ?_
    refine go_nil nd ?_
    refine then_norm ?_
    refine awp_ret ?_
    refine then_ret ?_
    have e2 := h
    subst e2
    refine ret_ret ?_
    refine fin0 ttok rfl rfl ?_
    exact (wkP_refl _ rfl)
  · rw [g1]
    replace h := of_bif_f h g1
    refine go_run' ttok 5 rfl ?_
    refine go_gcase rfl rfl rfl (fun g3 => ?_) (fun g3 => ?_)
    · rw [g3]
      replace h := of_bif_t h g3
      refine go_run' ttok 9 rfl ?_
      refine go_nil nd ?_
      refine then_norm ?_
      refine awp_cond rfl (fun tt0 => ?_) (fun h => by cases h)
      clear tt0
      refine awp_seq ?_
      refine awp_go hmix ?_
      refine go_run' ttok 1 rfl ?_
      refine go_nil nd ?_
      refine then_norm ?_
      refine awp_ret ?_
      refine then_ret ?_
      have e4 := h
      subst e4
      refine ret_ret ?_
      refine fin0 ttok rfl rfl ?_
      exact (wkP_refl _ rfl)
    · rw [g3]
      replace h := of_bif_f h g3
      refine go_run' ttok 5 rfl ?_
      refine go_gcase rfl rfl rfl (fun g5 => ?_) (fun g5 => ?_)
      · rw [g5]
        replace h := of_bif_t h g5
        refine go_run' ttok 4 rfl ?_
        refine go_nil nd ?_
        refine then_norm ?_
        refine awp_cond rfl (fun tt0 => ?_) (fun h => by cases h)
        clear tt0
        refine awp_seq ?_
        refine awp_go hmix ?_
        refine go_run' ttok 1 rfl ?_
        refine go_nil nd ?_
        refine then_norm ?_
        refine awp_ret ?_
        refine then_ret ?_
        have e6 := h
        subst e6
        refine ret_ret ?_
        refine fin0 ttok rfl rfl ?_
        exact (wkP_refl _ rfl)
      · rw [g5]
        replace h := of_bif_f h g5
        refine go_run' ttok 4 rfl ?_
        refine go_nil nd ?_
        refine then_norm ?_
        refine awp_cond (b := (decide (20 < s.Trim))) rfl (fun c7 => ?_) (fun c7 => ?_)
        · replace h := of_bif_t h c7
          refine awp_seq ?_
          refine awp_go hmix ?_
          refine go_run' ttok 1 rfl ?_
          refine go_nil nd ?_
          refine then_norm ?_
          refine awp_ret ?_
          refine then_ret ?_
          have e8 := h
          subst e8
          refine ret_ret ?_
          refine fin0 ttok rfl rfl ?_
          exact (wkP_refl _ rfl)
        · replace h := of_bif_f h c7
          refine awp_skip ?_
          refine then_norm ?_
          refine awp_seq ?_
          refine awp_seq ?_
          refine awp_go hmix ?_
          refine go_run' ttok 4 rfl ?_
          refine go_gcase rfl rfl rfl (fun g9 => ?_) (fun g9 => ?_)
          · rw [g9]
            replace h := of_bif_t h g9
            refine go_run' ttok 10 rfl ?_
            refine go_nil nd ?_
            refine then_norm ?_
            refine awp_cond rfl (fun tt0 => ?_) (fun h => by cases h)
            clear tt0
            refine awp_seq ?_
            refine awp_go hmix ?_
            refine go_run' ttok 1 rfl ?_
            refine go_nil nd ?_
            refine then_norm ?_
            refine awp_ret ?_
            refine then_ret ?_
            have e10 := h
            subst e10
            refine ret_ret ?_
            refine fin0 ttok rfl rfl ?_
            exact (wkP_refl _ rfl)
          · rw [g9]
            replace h := of_bif_f h g9
            refine go_run' ttok 5 rfl ?_
            refine go_gcase rfl rfl rfl (fun g11 => ?_) (fun g11 => ?_)
            · rw [g11]
              replace h := of_bif_t h g11
              refine go_run' ttok 5 rfl ?_
              refine go_nil nd ?_
              refine then_norm ?_
              refine awp_cond rfl (fun tt0 => ?_) (fun h => by cases h)
              clear tt0
              refine awp_seq ?_
              refine awp_go hmix ?_
              refine go_run' ttok 1 rfl ?_
              refine go_nil nd ?_
              refine then_norm ?_
              refine awp_ret ?_
              refine then_ret ?_
              have e12 := h
              subst e12
              refine ret_ret ?_
              refine fin0 ttok rfl rfl ?_
              exact (wkP_refl _ rfl)
            · rw [g11]
              replace h := of_bif_f h g11
              refine go_run' ttok 2 rfl ?_
              refine go_call fn29 (worth_isStep_w s.Step _ rfl) rfl rfl rfl rfl rfl rfl rfl ?_
              refine go_run' ttok 2 rfl ?_
              refine go_nil nd ?_
              refine then_norm ?_
              refine awp_cond (b := (!(worth_isStep_g s.Step))) rfl (fun c13 => ?_) (fun c13 => ?_)
              · replace h := of_bif_t h c13
                refine awp_seq ?_
                refine awp_go hmix ?_
                refine go_run' ttok 1 rfl ?_
                refine go_nil nd ?_
                refine then_norm ?_
                refine awp_ret ?_
                refine then_ret ?_
                have e14 := h
                subst e14
                refine ret_ret ?_
                refine fin0 ttok rfl rfl ?_
                exact (wkP_refl _ rfl)
              · replace h := of_bif_f h c13
                refine awp_skip ?_
                refine then_norm ?_
                refine awp_seq ?_
                refine awp_seq ?_
                refine awp_go hmix ?_
                refine go_run' ttok 4 rfl ?_
                refine go_gcase rfl rfl rfl (fun g15 => ?_) (fun g15 => ?_)
                · rw [g15]
                  replace h := of_bif_t h g15
                  refine go_run' ttok 20 rfl ?_
                  refine go_nil nd ?_
                  refine then_norm ?_
                  refine awp_cond rfl (fun tt0 => ?_) (fun h => by cases h)
                  clear tt0
                  refine awp_seq ?_
                  refine awp_go hmix ?_
                  refine go_run' ttok 1 rfl ?_
                  refine go_nil nd ?_
                  refine then_norm ?_
                  refine awp_ret ?_
                  refine then_ret ?_
                  have e16 := h
                  subst e16
                  refine ret_ret ?_
                  refine fin0 ttok rfl rfl ?_
                  exact (wkP_refl _ rfl)
                · rw [g15]
                  replace h := of_bif_f h g15
                  refine go_run' ttok 5 rfl ?_
                  refine go_gcase rfl rfl rfl (fun g17 => ?_) (fun g17 => ?_)
                  · rw [g17]
                    replace h := of_bif_t h g17
                    refine go_run' ttok 15 rfl ?_
                    refine go_nil nd ?_
                    refine then_norm ?_
                    refine awp_cond rfl (fun tt0 => ?_) (fun h => by cases h)
                    clear tt0
                    refine awp_seq ?_
                    refine awp_go hmix ?_
                    refine go_run' ttok 1 rfl ?_
                    refine go_nil nd ?_
                    refine then_norm ?_
                    refine awp_ret ?_
                    refine then_ret ?_
                    have e18 := h
                    subst e18
                    refine ret_ret ?_
                    refine fin0 ttok rfl rfl ?_
                    exact (wkP_refl _ rfl)
                  · rw [g17]
                    replace h := of_bif_f h g17
                    refine go_run' ttok 5 rfl ?_
                    refine go_gcase rfl rfl rfl (fun g19 => ?_) (fun g19 => ?_)
                    · rw [g19]
                      replace h := of_bif_t h g19
                      refine go_run' ttok 10 rfl ?_
                      refine go_nil nd ?_
                      refine then_norm ?_
                      refine awp_cond rfl (fun tt0 => ?_) (fun h => by cases h)
                      clear tt0
                      refine awp_seq ?_
                      refine awp_go hmix ?_
                      refine go_run' ttok 1 rfl ?_
                      refine go_nil nd ?_
                      refine then_norm ?_
                      refine awp_ret ?_
                      refine then_ret ?_
                      have e20 := h
                      subst e20
                      refine ret_ret ?_
                      refine fin0 ttok rfl rfl ?_
                      exact (wkP_refl _ rfl)
                    · rw [g19]
                      replace h := of_bif_f h g19
                      refine go_run' ttok 5 rfl ?_
                      refine go_gcase rfl rfl rfl (fun g21 => ?_) (fun g21 => ?_)
                      · rw [g21]
                        replace h := of_bif_t h g21
                        refine go_run' ttok 5 rfl ?_
                        refine go_nil nd ?_
                        refine then_norm ?_
                        refine awp_cond rfl (fun tt0 => ?_) (fun h => by cases h)
                        clear tt0
                        refine awp_seq ?_
                        refine awp_go hmix ?_
                        refine go_run' ttok 1 rfl ?_
                        refine go_nil nd ?_
                        refine then_norm ?_
                        refine awp_ret ?_
                        refine then_ret ?_
                        have e22 := h
                        subst e22
                        refine ret_ret ?_
                        refine fin0 ttok rfl rfl ?_
                        exact (wkP_refl _ rfl)
                      · rw [g21]
                        replace h := of_bif_f h g21
                        refine go_run' ttok 2 rfl ?_
                        refine go_call fn30 (worth_isFine_w vr.Fine _ rfl) rfl rfl rfl rfl rfl rfl rfl ?_
                        refine go_run' ttok 2 rfl ?_
                        refine go_nil nd ?_
                        refine then_norm ?_
                        refine awp_cond (b := (!(worth_isFine_g vr.Fine))) rfl (fun c23 => ?_) (fun c23 => ?_)
                        · replace h := of_bif_t h c23
                          refine awp_seq ?_
                          refine awp_go hmix ?_
                          refine go_run' ttok 1 rfl ?_
                          refine go_nil nd ?_
                          refine then_norm ?_
                          refine awp_ret ?_
                          refine then_ret ?_
                          have e24 := h
                          subst e24
                          refine ret_ret ?_
                          refine fin0 ttok rfl rfl ?_
                          exact (wkP_refl _ rfl)
                        · replace h := of_bif_f h c23
                          refine awp_skip ?_
                          refine then_norm ?_
                          refine awp_seq ?_
                          refine awp_go hmix ?_
                          refine go_run' ttok 1 rfl ?_
                          refine go_nil nd ?_
                          refine then_norm ?_
                          refine awp_ret ?_
                          have e25 := h
                          subst e25
                          refine ret_ret ?_
                          refine fin0 ttok rfl rfl ?_
                          exact (wkP_refl _ rfl)

/-- sawmill/sawmillref20.from -/
noncomputable def r20_from_g (n : Int) (low : Int) (high : Int) : Bool :=
  (bif (decide (low ≤ n)) then (decide (n ≤ high)) else false)
theorem r20_from_w (n : Int) (low : Int) (high : Int) (r : Bool) (h : r20_from_g n low high = r) : Holds Try.prog 31 [(I n), (I low), (I high)] [] (B r) [] := by
  unfold r20_from_g at h
  refine holds_fn Try.func31 rfl Try.ntmps31 rfl rfl rfl ?_
  refine awp_seq ?_
  refine awp_go hmix ?_
  refine go_run' ttok 1 rfl ?_
  refine go_nil nd ?_
  refine then_norm ?_
  refine awp_seq ?_
  refine awp_go hmix ?_
  refine go_run' ttok 4 rfl ?_
  refine go_gcase rfl rfl rfl (fun g1 => ?_) (fun g1 => ?_)
  · rw [g1]
    replace h := of_bif_t h g1
    refine go_run' ttok 5 rfl ?_
    refine go_nil nd ?_
    refine then_norm ?_
    refine awp_ret ?_
    have e2 := h
    subst e2
    refine ret_ret ?_
    refine fin0 ttok rfl rfl ?_
    exact (wkP_refl _ rfl)
  · rw [g1]
    replace h := of_bif_f h g1
    refine go_run' ttok 5 rfl ?_
    refine go_nil nd ?_
    refine then_norm ?_
    refine awp_ret ?_
    have e3 := h
    subst e3
    refine ret_ret ?_
    refine fin0 ttok rfl rfl ?_
    exact (wkP_refl _ rfl)

/-- sawmill/sawmillref20.Check -/
noncomputable def r20_Check_g (s : TSaw) (vr : TRates) : Int :=
  (bif (!(r20_from_g s.Kerf 0 20)) then 9 else (bif (!(r20_from_g s.Trim 0 20)) then 9 else (bif (!(r20_from_g s.Pitch 1 2000)) then 9 else (bif (!(r20_from_g s.Step 1 20000)) then 9 else (bif (!(r20_from_g vr.Chip 0 1000)) then 9 else (bif (!(r20_from_g vr.Dust 0 1000)) then 9 else (bif (!(r20_from_g vr.Fine 0 1000000)) then 9 else 0)))))))
theorem r20_Check_w (s : TSaw) (vr : TRates) (r : Int) (h : r20_Check_g s vr = r) : Holds Try.prog 12 [(encTSaw s), (encTRates vr)] [] (I r) [] := by
  unfold r20_Check_g at h
  refine holds_fn Try.func12 rfl Try.ntmps12 rfl rfl rfl ?_
  refine awp_seq ?_
  refine awp_go hmix ?_
  refine go_run' ttok 3 rfl ?_
  refine go_nil nd ?_
  refine then_norm ?_
  refine awp_seq ?_
  refine awp_seq ?_
  refine awp_go hmix ?_
  refine go_run' ttok 2 rfl ?_
  refine go_call fn31 (r20_from_w s.Kerf 0 20 _ rfl) rfl rfl rfl rfl rfl rfl rfl ?_
  refine go_run' ttok 2 rfl ?_
  refine go_gcase rfl rfl rfl (fun g1 => ?_) (fun g1 => ?_)
  · rw [g1]
    replace h := of_bif_t h g1
    refine go_run' ttok 17 rfl ?_
    refine go_nil nd ?_
    refine then_norm ?_
    refine awp_cond rfl (fun tt0 => ?_) (fun h => by cases h)
    clear tt0
    refine awp_seq ?_
    refine awp_go hmix ?_
    refine go_run' ttok 1 rfl ?_
    refine go_nil nd ?_
    refine then_norm ?_
    refine awp_ret ?_
    refine then_ret ?_
    have e2 := h
    subst e2
    refine ret_ret ?_
    refine fin0 ttok rfl rfl ?_
    exact (wkP_refl _ rfl)
  · rw [g1]
    replace h := of_bif_f h g1
    refine go_run' ttok 2 rfl ?_
    refine go_call fn31 (r20_from_w s.Trim 0 20 _ rfl) rfl rfl rfl rfl rfl rfl rfl ?_
    refine go_run' ttok 3 rfl ?_
    refine go_gcase rfl rfl rfl (fun g3 => ?_) (fun g3 => ?_)
    · rw [g3]
      replace h := of_bif_t h g3
      refine go_run' ttok 11 rfl ?_
      refine go_nil nd ?_
      refine then_norm ?_
      refine awp_cond rfl (fun tt0 => ?_) (fun h => by cases h)
      clear tt0
      refine awp_seq ?_
      refine awp_go hmix ?_
      refine go_run' ttok 1 rfl ?_
      refine go_nil nd ?_
      refine then_norm ?_
      refine awp_ret ?_
      refine then_ret ?_
      have e4 := h
      subst e4
      refine ret_ret ?_
      refine fin0 ttok rfl rfl ?_
      exact (wkP_refl _ rfl)
    · rw [g3]
      replace h := of_bif_f h g3
      refine go_run' ttok 2 rfl ?_
      refine go_call fn31 (r20_from_w s.Pitch 1 2000 _ rfl) rfl rfl rfl rfl rfl rfl rfl ?_
      refine go_run' ttok 3 rfl ?_
      refine go_gcase rfl rfl rfl (fun g5 => ?_) (fun g5 => ?_)
      · rw [g5]
        replace h := of_bif_t h g5
        refine go_run' ttok 5 rfl ?_
        refine go_nil nd ?_
        refine then_norm ?_
        refine awp_cond rfl (fun tt0 => ?_) (fun h => by cases h)
        clear tt0
        refine awp_seq ?_
        refine awp_go hmix ?_
        refine go_run' ttok 1 rfl ?_
        refine go_nil nd ?_
        refine then_norm ?_
        refine awp_ret ?_
        refine then_ret ?_
        have e6 := h
        subst e6
        refine ret_ret ?_
        refine fin0 ttok rfl rfl ?_
        exact (wkP_refl _ rfl)
      · rw [g5]
        replace h := of_bif_f h g5
        refine go_run' ttok 2 rfl ?_
        refine go_call fn31 (r20_from_w s.Step 1 20000 _ rfl) rfl rfl rfl rfl rfl rfl rfl ?_
        refine go_run' ttok 2 rfl ?_
        refine go_nil nd ?_
        refine then_norm ?_
        refine awp_cond (b := (!(r20_from_g s.Step 1 20000))) rfl (fun c7 => ?_) (fun c7 => ?_)
        · replace h := of_bif_t h c7
          refine awp_seq ?_
          refine awp_go hmix ?_
          refine go_run' ttok 1 rfl ?_
          refine go_nil nd ?_
          refine then_norm ?_
          refine awp_ret ?_
          refine then_ret ?_
          have e8 := h
          subst e8
          refine ret_ret ?_
          refine fin0 ttok rfl rfl ?_
          exact (wkP_refl _ rfl)
        · replace h := of_bif_f h c7
          refine awp_skip ?_
          refine then_norm ?_
          refine awp_seq ?_
          refine awp_seq ?_
          refine awp_go hmix ?_
          refine go_run' ttok 2 rfl ?_
          refine go_call fn31 (r20_from_w vr.Chip 0 1000 _ rfl) rfl rfl rfl rfl rfl rfl rfl ?_
          refine go_run' ttok 2 rfl ?_
          refine go_gcase rfl rfl rfl (fun g9 => ?_) (fun g9 => ?_)
          · rw [g9]
            replace h := of_bif_t h g9
            refine go_run' ttok 11 rfl ?_
            refine go_nil nd ?_
            refine then_norm ?_
            refine awp_cond rfl (fun tt0 => ?_) (fun h => by cases h)
            clear tt0
            refine awp_seq ?_
            refine awp_go hmix ?_
            refine go_run' ttok 1 rfl ?_
            refine go_nil nd ?_
            refine then_norm ?_
            refine awp_ret ?_
            refine then_ret ?_
            have e10 := h
            subst e10
            refine ret_ret ?_
            refine fin0 ttok rfl rfl ?_
            exact (wkP_refl _ rfl)
          · rw [g9]
            replace h := of_bif_f h g9
            refine go_run' ttok 2 rfl ?_
            refine go_call fn31 (r20_from_w vr.Dust 0 1000 _ rfl) rfl rfl rfl rfl rfl rfl rfl ?_
            refine go_run' ttok 3 rfl ?_
            refine go_gcase rfl rfl rfl (fun g11 => ?_) (fun g11 => ?_)
            · rw [g11]
              replace h := of_bif_t h g11
              refine go_run' ttok 5 rfl ?_
              refine go_nil nd ?_
              refine then_norm ?_
              refine awp_cond rfl (fun tt0 => ?_) (fun h => by cases h)
              clear tt0
              refine awp_seq ?_
              refine awp_go hmix ?_
              refine go_run' ttok 1 rfl ?_
              refine go_nil nd ?_
              refine then_norm ?_
              refine awp_ret ?_
              refine then_ret ?_
              have e12 := h
              subst e12
              refine ret_ret ?_
              refine fin0 ttok rfl rfl ?_
              exact (wkP_refl _ rfl)
            · rw [g11]
              replace h := of_bif_f h g11
              refine go_run' ttok 2 rfl ?_
              refine go_call fn31 (r20_from_w vr.Fine 0 1000000 _ rfl) rfl rfl rfl rfl rfl rfl rfl ?_
              refine go_run' ttok 2 rfl ?_
              refine go_nil nd ?_
              refine then_norm ?_
              refine awp_cond (b := (!(r20_from_g vr.Fine 0 1000000))) rfl (fun c13 => ?_) (fun c13 => ?_)
              · replace h := of_bif_t h c13
                refine awp_seq ?_
                refine awp_go hmix ?_
                refine go_run' ttok 1 rfl ?_
                refine go_nil nd ?_
                refine then_norm ?_
                refine awp_ret ?_
                refine then_ret ?_
                have e14 := h
                subst e14
                refine ret_ret ?_
                refine fin0 ttok rfl rfl ?_
                exact (wkP_refl _ rfl)
              · replace h := of_bif_f h c13
                refine awp_skip ?_
                refine then_norm ?_
                refine awp_seq ?_
                refine awp_go hmix ?_
                refine go_run' ttok 1 rfl ?_
                refine go_nil nd ?_
                refine then_norm ?_
                refine awp_ret ?_
                have e15 := h
                subst e15
                refine ret_ret ?_
                refine fin0 ttok rfl rfl ?_
                exact (wkP_refl _ rfl)

noncomputable def l20_sample_s1 (i : Int) (s3 : Int) (s4 : Int) (s5 : (List Sp)) : Option ((Int × Int × Int × (List Sp)) ⊕ (Int × Int × (List Sp))) :=
  (bif (decide (i < 20)) then (Option.bind (appO 16 s5 ([(⟨(-100), 100⟩ : Sp)])) (fun l => some (Sum.inl ((W64 (i + 1)), s3, s4, l)))) else some (Sum.inr (s3, s4, s5)))
/-- sawmill/sawmilllaw20.sample -/
noncomputable def l20_sample_g : Option Tsawmilllaw20_Given :=
  (Option.bind ((loopO (fun q => l20_sample_s1 q.1 q.2.1 q.2.2.1 q.2.2.2) (0, 3000, (-10), [])) : Option (Int × Int × (List Sp))) (fun w1 => some (⟨[(⟨w1.1, (⟨w1.2.1, w1.2.2⟩ : TSection)⟩ : TSlice)], [], (⟨(⟨#[112, 108, 97, 110, 107]⟩ : ByteArray), 40, 100, 50, 0, [2000, 2500], [70, 90]⟩ : TProduct), 10⟩ : Tsawmilllaw20_Given)))
theorem l20_sample_w (r : Tsawmilllaw20_Given) (h : l20_sample_g = some r) : Holds Try.prog 32 [] [] (encTsawmilllaw20_Given r) [] := by
  unfold l20_sample_g at h
  refine holds_fn Try.func32 rfl Try.ntmps32 rfl rfl rfl ?_
  refine awp_seq ?_
  refine awp_go hmix ?_
  refine go_run' ttok 1 rfl ?_
  refine go_nil nd ?_
  refine then_norm ?_
  refine awp_seq ?_
  refine awp_go hmix ?_
  refine go_run' ttok 4 rfl ?_
  refine go_nil nd ?_
  refine then_norm ?_
  obtain ⟨y, hx1, h⟩ := of_obind h
  refine awp_seqJ (X := (Int × Int × (List Sp))) [0, 1] [0] (fun w => []) (fun w => [(990, some ⟨32, 2, w.2.2.map encSp⟩), (1, some ⟨67, 3, [(.agg [(I w.1), (I w.2.1), (.arr 990 0 w.2.2.length)])]⟩)]) (fun w => w = y) rfl rfl ?_ ?_
  · skip
    refine awp_seq ?_
    refine awp_go hmix ?_
    refine go_run' ttok 1 rfl ?_
    refine go_nil nd ?_
    refine then_norm ?_
    refine awp_block ?_
    refine awp_loopD (X := (Int × Int × Int × (List Sp))) (Y := (Int × Int × (List Sp))) [0, 1] [0] (fun q => [(2, (I q.1))]) (fun q => [(990, some ⟨32, 2, q.2.2.2.map encSp⟩), (1, some ⟨67, 3, [(.agg [(I q.2.1), (I q.2.2.1), (.arr 990 0 q.2.2.2.length)])]⟩)]) (fun q => l20_sample_s1 q.1 q.2.1 q.2.2.1 q.2.2.2) (0, 3000, (-10), []) [(990, none), (1, some 1), (0, some 0)] hx1 ⟨rfl, rfl, rfl, rfl, rfl, ⟨wkP_id _ rfl, trivial⟩, ⟨rfl, ⟨_, rfl, rfl, rfl, .inr ⟨⟨⟨wkP_id _ rfl, wkP_id _ rfl, ⟨rfl, rfl, (by first | rfl | simp [setI])⟩, trivial⟩, trivial⟩, ⟨rfl, trivial⟩⟩⟩, trivial⟩⟩ (fun x vR vz hz3 hk4 => ?_)
    obtain ⟨i, s3, s4, s5⟩ := x
    change l20_sample_s1 i s3 s4 s5 = _ at hz3
    unfold l20_sample_s1 at hz3
    refine awp_seq ?_
    refine awp_seq ?_
    refine awp_go hmix ?_
    refine go_run' ttok 2 rfl ?_
    refine go_nil nd ?_
    refine then_norm ?_
    refine awp_cond (b := (decide (i < 20))) rfl (fun c5 => ?_) (fun c5 => ?_)
    · replace hz3 := of_bif_t hz3 c5
      refine awp_skip ?_
      refine then_norm ?_
      refine awp_seq ?_
      refine awp_block ?_
      refine awp_go hmix ?_
      refine go_run' ttok 5 rfl ?_
      obtain ⟨l, hv6, hz3⟩ := of_obind hz3
      refine go_appT encSp s5 ([(⟨(-100), 100⟩ : Sp)]) l hv6 (fun _ => rfl) (by first | rfl | simp [setI]) (by first | rfl | simp [setI]) ttok rfl rfl rfl rfl rfl rfl rfl rfl rfl rfl rfl rfl rfl rfl rfl rfl rfl ?_
      refine go_run' ttok 3 rfl ?_
      refine go_nil nd ?_
      refine block_norm ?_
      refine then_norm ?_
      refine awp_go hmix ?_
      refine go_run' ttok 3 rfl ?_
      refine go_nil nd ?_
      have e7 := of_some hz3
      subst e7
      refine then_norm ⟨rfl, ((W64 (i + 1)), s3, s4, l), [(990, some 14), (1, some 1), (0, some 0)], ⟨rfl, rfl, rfl, rfl, rfl, ⟨wkP_id _ rfl, trivial⟩, ⟨⟨_, rfl, rfl, rfl, wkX_map (enc := encSp) l (fun _ => rfl)⟩, ⟨_, rfl, rfl, rfl, .inr ⟨⟨⟨wkP_id _ rfl, wkP_id _ rfl, ⟨rfl, rfl, (by first | rfl | simp [setI])⟩, trivial⟩, trivial⟩, ⟨rfl, trivial⟩⟩⟩, trivial⟩⟩, hk4⟩
    · replace hz3 := of_bif_f hz3 c5
      refine awp_exit ?_
      refine then_exit ?_
      obtain ⟨t, hn8, hq⟩ := of_mapr' hz3
      subst hq
      have hq : t = _ := hk4
      subst hq
      refine then_exit ?_
      refine block_here ?_
      have e9 := of_some hn8
      refine then_norm ⟨rfl, (s3, s4, s5), [(990, some 990), (1, some 1), (0, some 0)], ⟨rfl, rfl, rfl, rfl, rfl, trivial, ⟨⟨_, rfl, rfl, rfl, wkX_map (enc := encSp) s5 (fun _ => rfl)⟩, ⟨_, rfl, rfl, rfl, .inr ⟨⟨⟨wkP_id _ rfl, wkP_id _ rfl, ⟨rfl, rfl, (by first | rfl | simp [setI])⟩, trivial⟩, trivial⟩, ⟨rfl, trivial⟩⟩⟩, trivial⟩⟩, e9⟩
  · intro w hw2
    subst hw2
    obtain ⟨s, s1, s2⟩ := w
    refine awp_seq ?_
    refine awp_freezeM [0, 1] [0] [(990, some ⟨32, 2, s2.map encSp⟩)] [(1, some 1), (0, some 0)] [] [(1, some ⟨67, 3, [(.agg [(I s), (I s1), (encL encSp s2)])]⟩)] rfl rfl rfl rfl rfl ⟨rfl, by decide, trivial⟩ trivial ⟨⟨_, rfl, rfl, rfl, .inr ⟨⟨⟨(wkP_id _ rfl), (wkP_id _ rfl), (wkP_lend rfl (by first | rfl | simp [setI]) (fun _ => rfl)), trivial⟩, trivial⟩, ⟨rfl, trivial⟩⟩⟩, trivial⟩ ?_
    refine awp_go hmix ?_
    refine go_run' ttok 7 rfl ?_
    refine go_nil nd ?_
    refine then_norm ?_
    refine awp_freezeM [0] [] [(18, some ⟨67, 3, ([(⟨s, (⟨s1, s2⟩ : TSection)⟩ : TSlice)]).map encTSlice⟩), (19, some ⟨3, 1, ([2000, 2500]).map I⟩), (20, some ⟨3, 1, ([70, 90]).map I⟩)] [(0, some 0)] [] [(0, some ⟨41, 10, [(.agg [(encL encTSlice ([(⟨s, (⟨s1, s2⟩ : TSection)⟩ : TSlice)])), .nilS, (S (⟨#[112, 108, 97, 110, 107]⟩ : ByteArray)), (I 40), (I 100), (I 50), (I 0), (encL I ([2000, 2500])), (encL I ([70, 90])), (I 10)])]⟩)] rfl rfl rfl rfl rfl ⟨rfl, by decide, rfl, by decide, rfl, by decide, trivial⟩ trivial ⟨⟨_, rfl, rfl, rfl, .inr ⟨⟨⟨(wkP_lend rfl (by first | rfl | simp [setI]) (fun _ => rfl)), (wkP_id _ rfl), (wkP_id _ rfl), (wkP_id _ rfl), (wkP_id _ rfl), (wkP_id _ rfl), (wkP_id _ rfl), (wkP_lend rfl (by first | rfl | simp [setI]) (fun _ => rfl)), (wkP_lend rfl (by first | rfl | simp [setI]) (fun _ => rfl)), (wkP_id _ rfl), trivial⟩, trivial⟩, ⟨rfl, trivial⟩⟩⟩, trivial⟩ ?_
    refine awp_ret ?_
    have e10 := of_some h
    subst e10
    refine ret_ret ?_
    refine fin0 ttok rfl rfl ?_
    exact ⟨(wkP_refl _ rfl), wkP_nilm, (wkP_refl _ rfl), (wkP_refl _ rfl), (wkP_refl _ rfl), (wkP_refl _ rfl), (wkP_refl _ rfl), (wkP_refl _ rfl), (wkP_refl _ rfl), (wkP_refl _ rfl), trivial⟩
noncomputable def l20_sample_cs1 (N : Nat) (i : Int) (s3 : Int) (s4 : Int) (s5 : (List Sp)) : Option ((Int × Int × Int × (List Sp)) ⊕ (Int × Int × (List Sp))) :=
  (bif (decide (i < 20)) then (Option.bind (appO 16 s5 ([(⟨(-100), 100⟩ : Sp)])) (fun l => some (Sum.inl ((W64 (i + 1)), s3, s4, l)))) else some (Sum.inr (s3, s4, s5)))
theorem l20_sample_cs1_le (N : Nat) (i : Int) (s3 : Int) (s4 : Int) (s5 : (List Sp)) : OLe (l20_sample_cs1 N i s3 s4 s5) (l20_sample_s1 i s3 s4 s5) := by
  unfold l20_sample_cs1 l20_sample_s1
  repeat' (first | exact ole_rfl | refine ole_bif ?_ ?_ | refine ole_bind ?_ (fun _ => ?_) | refine ole_let (fun _ => ?_) | refine ole_map ?_ | refine ole_elim (fun _ => ?_) (fun _ => ?_) | refine ole_loop (fun _ => ?_))
noncomputable def l20_sample_c (N : Nat) : Option Tsawmilllaw20_Given :=
  (Option.bind ((iterX N (fun q => l20_sample_cs1 N q.1 q.2.1 q.2.2.1 q.2.2.2) (0, 3000, (-10), [])) : Option (Int × Int × (List Sp))) (fun w1 => some (⟨[(⟨w1.1, (⟨w1.2.1, w1.2.2⟩ : TSection)⟩ : TSlice)], [], (⟨(⟨#[112, 108, 97, 110, 107]⟩ : ByteArray), 40, 100, 50, 0, [2000, 2500], [70, 90]⟩ : TProduct), 10⟩ : Tsawmilllaw20_Given)))
theorem l20_sample_le (N : Nat) : OLe (l20_sample_c N) (l20_sample_g) := by
  unfold l20_sample_c l20_sample_g
  repeat' (first | exact ole_rfl | exact l20_sample_cs1_le _ _ _ _ _ | refine ole_bif ?_ ?_ | refine ole_bind ?_ (fun _ => ?_) | refine ole_let (fun _ => ?_) | refine ole_map ?_ | refine ole_elim (fun _ => ?_) (fun _ => ?_) | refine ole_loop (fun _ => ?_))

/-- sawmill/section.inRange -/
noncomputable def section_inRange_g (s : Sp) : Bool :=
  (bif (decide ((-600) ≤ (min s.a s.b))) then (decide ((max s.a s.b) ≤ 600)) else false)
theorem section_inRange_w (s : Sp) (r : Bool) (h : section_inRange_g s = r) : Holds Try.prog 62 [(encSp s)] [] (B r) [] := by
  unfold section_inRange_g at h
  refine holds_fn Try.func62 rfl Try.ntmps62 rfl rfl rfl ?_
  refine awp_seq ?_
  refine awp_go hmix ?_
  refine go_run' ttok 2 rfl ?_
  refine go_nil nd ?_
  refine then_norm ?_
  refine awp_seq ?_
  refine awp_go hmix ?_
  refine go_run' ttok 7 rfl ?_
  refine go_gcase rfl rfl rfl (fun g1 => ?_) (fun g1 => ?_)
  · rw [g1]
    replace h := of_bif_t h g1
    refine go_run' ttok 8 rfl ?_
    refine go_nil nd ?_
    refine then_norm ?_
    refine awp_ret ?_
    have e2 := h
    subst e2
    refine ret_ret ?_
    refine fin0 ttok rfl rfl ?_
    exact (wkP_refl _ rfl)
  · rw [g1]
    replace h := of_bif_f h g1
    refine go_run' ttok 8 rfl ?_
    refine go_nil nd ?_
    refine then_norm ?_
    refine awp_ret ?_
    have e3 := h
    subst e3
    refine ret_ret ?_
    refine fin0 ttok rfl rfl ?_
    exact (wkP_refl _ rfl)

/-- sawmill/section.isEmpty -/
noncomputable def section_isEmpty_g (s : Sp) : Bool :=
  (decide (s.b ≤ s.a))
theorem section_isEmpty_w (s : Sp) (r : Bool) (h : section_isEmpty_g s = r) : Holds Try.prog 63 [(encSp s)] [] (B r) [] := by
  unfold section_isEmpty_g at h
  refine holds_fn Try.func63 rfl Try.ntmps63 rfl rfl rfl ?_
  refine awp_seq ?_
  refine awp_go hmix ?_
  refine go_run' ttok 2 rfl ?_
  refine go_nil nd ?_
  refine then_norm ?_
  refine awp_seq ?_
  refine awp_go hmix ?_
  refine go_run' ttok 6 rfl ?_
  refine go_nil nd ?_
  refine then_norm ?_
  refine awp_ret ?_
  have e1 := h
  subst e1
  refine ret_ret ?_
  refine fin0 ttok rfl rfl ?_
  exact (wkP_refl _ rfl)

theorem eqT32_1 : eqB Try.prog shSp 32 = true := by kernel_rfl
theorem eqT32_2 : (Try.prog).eqGuardType (Try.prog).depth 32 = false := by kernel_rfl

noncomputable def section_Check_s1 (s : TSection) (vv : Int) : Option (Int ⊕ (Int ⊕ Unit)) :=
  (bif (decide (vv < ((s.Rows.length : Nat) : Int))) then (Option.bind (getI s.Rows vv) (fun e => (bif (!(section_inRange_g e)) then some (Sum.inr (Sum.inl 9)) else some (Sum.inl (W64 (vv + 1)))))) else some (Sum.inr (Sum.inr ())))
noncomputable def section_Check_s2 (s : TSection) (vv1 : Int) : Option (Int ⊕ (Int ⊕ Unit)) :=
  (bif (decide (vv1 < ((s.Rows.length : Nat) : Int))) then (Option.bind (getI s.Rows vv1) (fun e3 => (bif (section_isEmpty_g e3) then (bif (!(eqV encSp e3 (⟨0, 0⟩ : Sp))) then some (Sum.inr (Sum.inl 19)) else some (Sum.inl (W64 (vv1 + 1)))) else some (Sum.inl (W64 (vv1 + 1)))))) else some (Sum.inr (Sum.inr ())))
/-- sawmill/section.Check -/
noncomputable def section_Check_g (s : TSection) : Option Int :=
  (bif (decide (120 < ((s.Rows.length : Nat) : Int))) then some 4 else (bif (decide (s.Low < (-60))) then some 9 else (bif (decide ((W64 (60 - ((s.Rows.length : Nat) : Int))) < s.Low)) then some 9 else (Option.bind ((loopO (fun q => section_Check_s1 s q) 0) : Option (Int ⊕ Unit)) (Sum.elim (fun q => some q) (fun _ => (bif (((s.Rows.length : Nat) : Int) == 0) then (bif (s.Low != 0) then some 19 else some 0) else (Option.bind (getI s.Rows 0) (fun e1 => (bif (section_isEmpty_g e1) then some 19 else (Option.bind (getI s.Rows (W64 (((s.Rows.length : Nat) : Int) - 1))) (fun e2 => (bif (section_isEmpty_g e2) then some 19 else (Option.bind ((loopO (fun q => section_Check_s2 s q) 0) : Option (Int ⊕ Unit)) (Sum.elim (fun q => some q) (fun _ => some 0))))))))))))))))
theorem section_Check_w (s : TSection) (r : Int) (h : section_Check_g s = some r) : Holds Try.prog 45 [(encTSection s)] [] (I r) [] := by
  unfold section_Check_g at h
  refine holds_fn Try.func45 rfl Try.ntmps45 rfl rfl rfl ?_
  refine awp_seq ?_
  refine awp_go hmix ?_
  refine go_run' ttok 2 rfl ?_
  refine go_nil nd ?_
  refine then_norm ?_
  refine awp_seq ?_
  refine awp_go hmix ?_
  refine go_run' ttok 2 rfl ?_
  refine go_lenT encSp s.Rows ttok rfl rfl rfl rfl rfl rfl ?_
  refine go_run' ttok 1 rfl ?_
  refine go_nil nd ?_
  refine then_norm ?_
  refine awp_seq ?_
  refine awp_seq ?_
  refine awp_go hmix ?_
  refine go_run' ttok 2 rfl ?_
  refine go_nil nd ?_
  refine then_norm ?_
  refine awp_cond (b := (decide (120 < ((s.Rows.length : Nat) : Int)))) rfl (fun c1 => ?_) (fun c1 => ?_)
  · replace h := of_bif_t h c1
    refine awp_seq ?_
    refine awp_go hmix ?_
    refine go_run' ttok 1 rfl ?_
    refine go_nil nd ?_
    refine then_norm ?_
    refine awp_ret ?_
    refine then_ret ?_
    have e2 := of_some h
    subst e2
    refine ret_ret ?_
    refine fin0 ttok rfl rfl ?_
    exact (wkP_refl _ rfl)
  · replace h := of_bif_f h c1
    refine awp_skip ?_
    refine then_norm ?_
    refine awp_seq ?_
    refine awp_seq ?_
    refine awp_go hmix ?_
    refine go_run' ttok 4 rfl ?_
    refine go_gcase rfl rfl rfl (fun g3 => ?_) (fun g3 => ?_)
    · rw [g3]
      replace h := of_bif_t h g3
      refine go_run' ttok 6 rfl ?_
      refine go_nil nd ?_
      refine then_norm ?_
      refine awp_cond rfl (fun tt0 => ?_) (fun h => by cases h)
      clear tt0
      refine awp_seq ?_
      refine awp_go hmix ?_
      refine go_run' ttok 1 rfl ?_
      refine go_nil nd ?_
      refine then_norm ?_
      refine awp_ret ?_
      refine then_ret ?_
      have e4 := of_some h
      subst e4
      refine ret_ret ?_
      refine fin0 ttok rfl rfl ?_
      exact (wkP_refl _ rfl)
    · rw [g3]
      replace h := of_bif_f h g3
      refine go_run' ttok 6 rfl ?_
      refine go_nil nd ?_
      refine then_norm ?_
      refine awp_cond (b := (decide ((W64 (60 - ((s.Rows.length : Nat) : Int))) < s.Low))) rfl (fun c5 => ?_) (fun c5 => ?_)
      · replace h := of_bif_t h c5
        refine awp_seq ?_
        refine awp_go hmix ?_
        refine go_run' ttok 1 rfl ?_
        refine go_nil nd ?_
        refine then_norm ?_
        refine awp_ret ?_
        refine then_ret ?_
        have e6 := of_some h
        subst e6
        refine ret_ret ?_
        refine fin0 ttok rfl rfl ?_
        exact (wkP_refl _ rfl)
      · replace h := of_bif_f h c5
        refine awp_skip ?_
        refine then_norm ?_
        obtain ⟨y, hx7, h⟩ := of_obind h
        refine awp_seqJ (X := Unit) [1, 3] [1] (fun _ => []) (fun _ => []) (fun w => Sum.inr w = y) rfl rfl ?_ ?_
        · skip
          refine awp_seq ?_
          refine awp_go hmix ?_
          refine go_run' ttok 2 rfl ?_
          refine go_lenT encSp s.Rows ttok rfl rfl rfl rfl rfl rfl ?_
          refine go_run' ttok 1 rfl ?_
          refine go_nil nd ?_
          refine then_norm ?_
          refine awp_block ?_
          refine awp_loopD (X := Int) (Y := (Int ⊕ Unit)) [1, 3, 24, 25] [1] (fun q => [(26, (I q))]) (fun q => []) (fun q => section_Check_s1 s q) 0 [(1, some 1)] hx7 ⟨rfl, rfl, rfl, rfl, rfl, ⟨wkP_id _ rfl, trivial⟩, trivial⟩ (fun vv vR vz hz9 hk10 => ?_)
          change section_Check_s1 s vv = _ at hz9
          unfold section_Check_s1 at hz9
          refine awp_seq ?_
          refine awp_go hmix ?_
          refine go_run' ttok 1 rfl ?_
          refine go_nil nd ?_
          refine then_norm ?_
          refine awp_seq ?_
          refine awp_cond (b := (decide (vv < ((s.Rows.length : Nat) : Int)))) rfl (fun c11 => ?_) (fun c11 => ?_)
          · replace hz9 := of_bif_t hz9 c11
            refine awp_skip ?_
            refine then_norm ?_
            refine awp_seq ?_
            refine awp_block ?_
            refine awp_seq ?_
            refine awp_go hmix ?_
            obtain ⟨e, hv12, hz9⟩ := of_obind hz9
            refine go_indexT encSp s.Rows vv e hv12 ttok rfl rfl rfl rfl rfl rfl rfl rfl rfl ?_
            refine go_run' ttok 3 rfl ?_
            refine go_nil nd ?_
            refine then_norm ?_
            refine awp_seq ?_
            refine awp_go hmix ?_
            refine go_run' ttok 1 rfl ?_
            refine go_call fn62 (section_inRange_w e _ rfl) rfl rfl rfl rfl rfl rfl rfl ?_
            refine go_run' ttok 1 rfl ?_
            refine go_nil nd ?_
            refine then_norm ?_
            refine awp_cond (b := (!(section_inRange_g e))) rfl (fun c13 => ?_) (fun c13 => ?_)
            · replace hz9 := of_bif_t hz9 c13
              refine awp_seq ?_
              refine awp_go hmix ?_
              refine go_run' ttok 1 rfl ?_
              refine go_nil nd ?_
              refine then_norm ?_
              refine awp_ret ?_
              refine block_ret ?_
              refine then_ret ?_
              obtain ⟨t, hn14, hq⟩ := of_mapr' hz9
              subst hq
              have hq : t = _ := hk10
              subst hq
              refine then_ret ?_
              refine block_ret ?_
              obtain ⟨t1, hn15, hq⟩ := of_mapl' hn14
              subst hq
              have hq := of_inl h
              replace hq := of_some hq
              subst hq
              refine then_ret ?_
              have e16 := of_some hn15
              subst e16
              refine ret_ret ?_
              refine fin0 ttok rfl rfl ?_
              exact (wkP_refl _ rfl)
            · replace hz9 := of_bif_f hz9 c13
              refine awp_skip ?_
              refine block_norm ?_
              refine then_norm ?_
              refine awp_go hmix ?_
              refine go_run' ttok 2 rfl ?_
              refine go_nil nd ?_
              have e17 := of_some hz9
              subst e17
              refine then_norm ⟨rfl, (W64 (vv + 1)), [(1, some 1)], ⟨rfl, rfl, rfl, rfl, rfl, ⟨wkP_id _ rfl, trivial⟩, trivial⟩, hk10⟩
          · replace hz9 := of_bif_f hz9 c11
            refine awp_exit ?_
            refine then_exit ?_
            obtain ⟨t2, hn18, hq⟩ := of_mapr' hz9
            subst hq
            have hq : t2 = _ := hk10
            subst hq
            refine then_exit ?_
            refine block_here ?_
            have e19 := of_some hn18
            refine then_norm ⟨rfl, (), [(1, some 1)], ⟨rfl, rfl, rfl, rfl, rfl, trivial, trivial⟩, e19⟩
        · intro w hw8
          subst hw8
          replace h := of_inr h
          refine awp_seq ?_
          refine awp_seq ?_
          refine awp_go hmix ?_
          refine go_run' ttok 2 rfl ?_
          refine go_nil nd ?_
          refine then_norm ?_
          refine awp_cond (b := (((s.Rows.length : Nat) : Int) == 0)) rfl (fun c20 => ?_) (fun c20 => ?_)
          · replace h := of_bif_t h c20
            refine awp_seq ?_
            refine awp_seq ?_
            refine awp_go hmix ?_
            refine go_run' ttok 3 rfl ?_
            refine go_nil nd ?_
            refine then_norm ?_
            refine awp_cond (b := (s.Low != 0)) rfl (fun c21 => ?_) (fun c21 => ?_)
            · replace h := of_bif_t h c21
              refine awp_seq ?_
              refine awp_go hmix ?_
              refine go_run' ttok 1 rfl ?_
              refine go_nil nd ?_
              refine then_norm ?_
              refine awp_ret ?_
              refine then_ret ?_
              refine then_ret ?_
              have e22 := of_some h
              subst e22
              refine ret_ret ?_
              refine fin0 ttok rfl rfl ?_
              exact (wkP_refl _ rfl)
            · replace h := of_bif_f h c21
              refine awp_skip ?_
              refine then_norm ?_
              refine awp_seq ?_
              refine awp_go hmix ?_
              refine go_run' ttok 1 rfl ?_
              refine go_nil nd ?_
              refine then_norm ?_
              refine awp_ret ?_
              refine then_ret ?_
              have e23 := of_some h
              subst e23
              refine ret_ret ?_
              refine fin0 ttok rfl rfl ?_
              exact (wkP_refl _ rfl)
          · replace h := of_bif_f h c20
            refine awp_skip ?_
            refine then_norm ?_
            refine awp_seq ?_
            refine awp_seq ?_
            refine awp_go hmix ?_
            refine go_run' ttok 2 rfl ?_
            obtain ⟨e1, hv24, h⟩ := of_obind h
            refine go_indexT encSp s.Rows 0 e1 hv24 ttok rfl rfl rfl rfl rfl rfl rfl rfl rfl ?_
            refine go_run' ttok 1 rfl ?_
            refine go_call fn63 (section_isEmpty_w e1 _ rfl) rfl rfl rfl rfl rfl rfl rfl ?_
            refine go_run' ttok 1 rfl ?_
            refine go_gcase rfl rfl rfl (fun g25 => ?_) (fun g25 => ?_)
            · rw [g25]
              replace h := of_bif_t h g25
              refine go_run' ttok 8 rfl ?_
              refine go_nil nd ?_
              refine then_norm ?_
              refine awp_cond rfl (fun tt0 => ?_) (fun h => by cases h)
              clear tt0
              refine awp_seq ?_
              refine awp_go hmix ?_
              refine go_run' ttok 1 rfl ?_
              refine go_nil nd ?_
              refine then_norm ?_
              refine awp_ret ?_
              refine then_ret ?_
              have e26 := of_some h
              subst e26
              refine ret_ret ?_
              refine fin0 ttok rfl rfl ?_
              exact (wkP_refl _ rfl)
            · rw [g25]
              replace h := of_bif_f h g25
              refine go_run' ttok 4 rfl ?_
              obtain ⟨e2, hv27, h⟩ := of_obind h
              refine go_indexT encSp s.Rows (W64 (((s.Rows.length : Nat) : Int) - 1)) e2 hv27 ttok rfl rfl rfl rfl rfl rfl rfl rfl rfl ?_
              refine go_run' ttok 1 rfl ?_
              refine go_call fn63 (section_isEmpty_w e2 _ rfl) rfl rfl rfl rfl rfl rfl rfl ?_
              refine go_run' ttok 1 rfl ?_
              refine go_nil nd ?_
              refine then_norm ?_
              refine awp_cond (b := (section_isEmpty_g e2)) rfl (fun c28 => ?_) (fun c28 => ?_)
              · replace h := of_bif_t h c28
                refine awp_seq ?_
                refine awp_go hmix ?_
                refine go_run' ttok 1 rfl ?_
                refine go_nil nd ?_
                refine then_norm ?_
                refine awp_ret ?_
                refine then_ret ?_
                have e29 := of_some h
                subst e29
                refine ret_ret ?_
                refine fin0 ttok rfl rfl ?_
                exact (wkP_refl _ rfl)
              · replace h := of_bif_f h c28
                refine awp_skip ?_
                refine then_norm ?_
                obtain ⟨y1, hx30, h⟩ := of_obind h
                refine awp_seqJ (X := Unit) [] [] (fun _ => []) (fun _ => []) (fun w1 => Sum.inr w1 = y1) rfl rfl ?_ ?_
                · skip
                  refine awp_seq ?_
                  refine awp_go hmix ?_
                  refine go_run' ttok 2 rfl ?_
                  refine go_lenT encSp s.Rows ttok rfl rfl rfl rfl rfl rfl ?_
                  refine go_run' ttok 1 rfl ?_
                  refine go_nil nd ?_
                  refine then_norm ?_
                  refine awp_block ?_
                  refine awp_loopD (X := Int) (Y := (Int ⊕ Unit)) [54, 55] [] (fun q => [(56, (I q))]) (fun q => []) (fun q => section_Check_s2 s q) 0 [] hx30 ⟨rfl, rfl, rfl, rfl, rfl, ⟨wkP_id _ rfl, trivial⟩, trivial⟩ (fun vv1 vR1 vz1 hz32 hk33 => ?_)
                  change section_Check_s2 s vv1 = _ at hz32
                  unfold section_Check_s2 at hz32
                  refine awp_seq ?_
                  refine awp_go hmix ?_
                  refine go_run' ttok 1 rfl ?_
                  refine go_nil nd ?_
                  refine then_norm ?_
                  refine awp_seq ?_
                  refine awp_cond (b := (decide (vv1 < ((s.Rows.length : Nat) : Int)))) rfl (fun c34 => ?_) (fun c34 => ?_)
                  · replace hz32 := of_bif_t hz32 c34
                    refine awp_skip ?_
                    refine then_norm ?_
                    refine awp_seq ?_
                    refine awp_block ?_
                    refine awp_seq ?_
                    refine awp_go hmix ?_
                    obtain ⟨e3, hv35, hz32⟩ := of_obind hz32
                    refine go_indexT encSp s.Rows vv1 e3 hv35 ttok rfl rfl rfl rfl rfl rfl rfl rfl rfl ?_
                    refine go_run' ttok 3 rfl ?_
                    refine go_nil nd ?_
                    refine then_norm ?_
                    refine awp_seq ?_
                    refine awp_go hmix ?_
                    refine go_run' ttok 1 rfl ?_
                    refine go_call fn63 (section_isEmpty_w e3 _ rfl) rfl rfl rfl rfl rfl rfl rfl ?_
                    refine go_run' ttok 1 rfl ?_
                    refine go_gcase rfl rfl rfl (fun g36 => ?_) (fun g36 => ?_)
                    · rw [g36]
                      replace hz32 := of_bif_t hz32 g36
                      refine go_run' ttok 2 rfl ?_
                      refine go_step rfl (as_neAgg shSp rfl eqT32_1 eqT32_2 (by decide) rfl rfl rfl rfl rfl) rfl rfl rfl ?_
                      refine go_run' ttok 1 rfl ?_
                      refine go_nil nd ?_
                      refine then_norm ?_
                      refine awp_cond (b := (!(eqV encSp e3 (⟨0, 0⟩ : Sp)))) rfl (fun c37 => ?_) (fun c37 => ?_)
                      · replace hz32 := of_bif_t hz32 c37
                        refine awp_seq ?_
                        refine awp_go hmix ?_
                        refine go_run' ttok 1 rfl ?_
                        refine go_nil nd ?_
                        refine then_norm ?_
                        refine awp_ret ?_
                        refine block_ret ?_
                        refine then_ret ?_
                        obtain ⟨t3, hn38, hq⟩ := of_mapr' hz32
                        subst hq
                        have hq : t3 = _ := hk33
                        subst hq
                        refine then_ret ?_
                        refine block_ret ?_
                        obtain ⟨t4, hn39, hq⟩ := of_mapl' hn38
                        subst hq
                        have hq := of_inl h
                        replace hq := of_some hq
                        subst hq
                        refine then_ret ?_
                        have e40 := of_some hn39
                        subst e40
                        refine ret_ret ?_
                        refine fin0 ttok rfl rfl ?_
                        exact (wkP_refl _ rfl)
                      · replace hz32 := of_bif_f hz32 c37
                        refine awp_skip ?_
                        refine block_norm ?_
                        refine then_norm ?_
                        refine awp_go hmix ?_
                        refine go_run' ttok 2 rfl ?_
                        refine go_nil nd ?_
                        have e41 := of_some hz32
                        subst e41
                        refine then_norm ⟨rfl, (W64 (vv1 + 1)), [], ⟨rfl, rfl, rfl, rfl, rfl, ⟨wkP_id _ rfl, trivial⟩, trivial⟩, hk33⟩
                    · rw [g36]
                      replace hz32 := of_bif_f hz32 g36
                      refine go_run' ttok 4 rfl ?_
                      refine go_nil nd ?_
                      refine then_norm ?_
                      refine awp_cond rfl (fun h => by cases h) (fun tt0 => ?_)
                      clear tt0
                      refine awp_skip ?_
                      refine block_norm ?_
                      refine then_norm ?_
                      refine awp_go hmix ?_
                      refine go_run' ttok 2 rfl ?_
                      refine go_nil nd ?_
                      have e42 := of_some hz32
                      subst e42
                      refine then_norm ⟨rfl, (W64 (vv1 + 1)), [], ⟨rfl, rfl, rfl, rfl, rfl, ⟨wkP_id _ rfl, trivial⟩, trivial⟩, hk33⟩
                  · replace hz32 := of_bif_f hz32 c34
                    refine awp_exit ?_
                    refine then_exit ?_
                    obtain ⟨t5, hn43, hq⟩ := of_mapr' hz32
                    subst hq
                    have hq : t5 = _ := hk33
                    subst hq
                    refine then_exit ?_
                    refine block_here ?_
                    have e44 := of_some hn43
                    refine then_norm ⟨rfl, (), [], ⟨rfl, rfl, rfl, rfl, rfl, trivial, trivial⟩, e44⟩
                · intro w1 hw31
                  subst hw31
                  replace h := of_inr h
                  refine awp_seq ?_
                  refine awp_go hmix ?_
                  refine go_run' ttok 1 rfl ?_
                  refine go_nil nd ?_
                  refine then_norm ?_
                  refine awp_ret ?_
                  have e45 := of_some h
                  subst e45
                  refine ret_ret ?_
                  refine fin0 ttok rfl rfl ?_
                  exact (wkP_refl _ rfl)
noncomputable def section_Check_cs1 (N : Nat) (s : TSection) (vv : Int) : Option (Int ⊕ (Int ⊕ Unit)) :=
  (bif (decide (vv < ((s.Rows.length : Nat) : Int))) then (Option.bind (getI s.Rows vv) (fun e => (bif (!(section_inRange_g e)) then some (Sum.inr (Sum.inl 9)) else some (Sum.inl (W64 (vv + 1)))))) else some (Sum.inr (Sum.inr ())))
theorem section_Check_cs1_le (N : Nat) (s : TSection) (vv : Int) : OLe (section_Check_cs1 N s vv) (section_Check_s1 s vv) := by
  unfold section_Check_cs1 section_Check_s1
  repeat' (first | exact ole_rfl | refine ole_bif ?_ ?_ | refine ole_bind ?_ (fun _ => ?_) | refine ole_let (fun _ => ?_) | refine ole_map ?_ | refine ole_elim (fun _ => ?_) (fun _ => ?_) | refine ole_loop (fun _ => ?_))
noncomputable def section_Check_cs2 (N : Nat) (s : TSection) (vv1 : Int) : Option (Int ⊕ (Int ⊕ Unit)) :=
  (bif (decide (vv1 < ((s.Rows.length : Nat) : Int))) then (Option.bind (getI s.Rows vv1) (fun e3 => (bif (section_isEmpty_g e3) then (bif (!(eqV encSp e3 (⟨0, 0⟩ : Sp))) then some (Sum.inr (Sum.inl 19)) else some (Sum.inl (W64 (vv1 + 1)))) else some (Sum.inl (W64 (vv1 + 1)))))) else some (Sum.inr (Sum.inr ())))
theorem section_Check_cs2_le (N : Nat) (s : TSection) (vv1 : Int) : OLe (section_Check_cs2 N s vv1) (section_Check_s2 s vv1) := by
  unfold section_Check_cs2 section_Check_s2
  repeat' (first | exact ole_rfl | exact section_Check_cs1_le _ _ _ | refine ole_bif ?_ ?_ | refine ole_bind ?_ (fun _ => ?_) | refine ole_let (fun _ => ?_) | refine ole_map ?_ | refine ole_elim (fun _ => ?_) (fun _ => ?_) | refine ole_loop (fun _ => ?_))
noncomputable def section_Check_c (N : Nat) (s : TSection) : Option Int :=
  (bif (decide (120 < ((s.Rows.length : Nat) : Int))) then some 4 else (bif (decide (s.Low < (-60))) then some 9 else (bif (decide ((W64 (60 - ((s.Rows.length : Nat) : Int))) < s.Low)) then some 9 else (Option.bind ((iterX N (fun q => section_Check_cs1 N s q) 0) : Option (Int ⊕ Unit)) (Sum.elim (fun q => some q) (fun _ => (bif (((s.Rows.length : Nat) : Int) == 0) then (bif (s.Low != 0) then some 19 else some 0) else (Option.bind (getI s.Rows 0) (fun e1 => (bif (section_isEmpty_g e1) then some 19 else (Option.bind (getI s.Rows (W64 (((s.Rows.length : Nat) : Int) - 1))) (fun e2 => (bif (section_isEmpty_g e2) then some 19 else (Option.bind ((iterX N (fun q => section_Check_cs2 N s q) 0) : Option (Int ⊕ Unit)) (Sum.elim (fun q => some q) (fun _ => some 0))))))))))))))))
theorem section_Check_le (N : Nat) (s : TSection) : OLe (section_Check_c N s) (section_Check_g s) := by
  unfold section_Check_c section_Check_g
  repeat' (first | exact ole_rfl | exact section_Check_cs1_le _ _ _ | exact section_Check_cs2_le _ _ _ | refine ole_bif ?_ ?_ | refine ole_bind ?_ (fun _ => ?_) | refine ole_let (fun _ => ?_) | refine ole_map ?_ | refine ole_elim (fun _ => ?_) (fun _ => ?_) | refine ole_loop (fun _ => ?_))

noncomputable def solid_Check_s1 (l : (List TSlice)) (length : Int) (vv : Int) : Option ((Int × Int) ⊕ (Int ⊕ Unit)) :=
  (bif (decide (vv < ((l.length : Nat) : Int))) then (Option.bind (getI l vv) (fun e => (Option.bind (section_Check_g e.Sec) (fun cv => (bif (cv != 0) then some (Sum.inr (Sum.inl cv)) else (bif (((e.Sec.Rows.length : Nat) : Int) == 0) then some (Sum.inr (Sum.inl 18)) else (bif (decide (e.Len < 1)) then some (Sum.inr (Sum.inl 9)) else (bif (decide ((W64 (20000 - length)) < e.Len)) then some (Sum.inr (Sum.inl 9)) else some (Sum.inl ((W64 (length + e.Len)), (W64 (vv + 1)))))))))))) else some (Sum.inr (Sum.inr ())))
/-- sawmill/solid.Check -/
noncomputable def solid_Check_g (l : (List TSlice)) : Option Int :=
  (bif (((l.length : Nat) : Int) == 0) then some 3 else (bif (decide (24 < ((l.length : Nat) : Int))) then some 4 else (Option.bind ((loopO (fun q => solid_Check_s1 l q.1 q.2) (0, 0)) : Option (Int ⊕ Unit)) (Sum.elim (fun q => some q) (fun _ => some 0)))))
theorem solid_Check_w (l : (List TSlice)) (r : Int) (h : solid_Check_g l = some r) : Holds Try.prog 25 [((encL encTSlice) l)] [] (I r) [] := by
  unfold solid_Check_g at h
  refine holds_fn Try.func25 rfl Try.ntmps25 rfl rfl rfl ?_
  refine awp_seq ?_
  refine awp_go hmix ?_
  refine go_run' ttok 1 rfl ?_
  refine go_nil nd ?_
  refine then_norm ?_
  refine awp_seq ?_
  refine awp_seq ?_
  refine awp_go hmix ?_
  refine go_run' ttok 1 rfl ?_
  refine go_lenT encTSlice l ttok rfl rfl rfl rfl rfl rfl ?_
  refine go_run' ttok 1 rfl ?_
  refine go_nil nd ?_
  refine then_norm ?_
  refine awp_cond (b := (((l.length : Nat) : Int) == 0)) rfl (fun c1 => ?_) (fun c1 => ?_)
  · replace h := of_bif_t h c1
    refine awp_seq ?_
    refine awp_go hmix ?_
    refine go_run' ttok 1 rfl ?_
    refine go_nil nd ?_
    refine then_norm ?_
    refine awp_ret ?_
    refine then_ret ?_
    have e2 := of_some h
    subst e2
    refine ret_ret ?_
    refine fin0 ttok rfl rfl ?_
    exact (wkP_refl _ rfl)
  · replace h := of_bif_f h c1
    refine awp_skip ?_
    refine then_norm ?_
    refine awp_seq ?_
    refine awp_seq ?_
    refine awp_go hmix ?_
    refine go_run' ttok 1 rfl ?_
    refine go_lenT encTSlice l ttok rfl rfl rfl rfl rfl rfl ?_
    refine go_run' ttok 1 rfl ?_
    refine go_nil nd ?_
    refine then_norm ?_
    refine awp_cond (b := (decide (24 < ((l.length : Nat) : Int)))) rfl (fun c3 => ?_) (fun c3 => ?_)
    · replace h := of_bif_t h c3
      refine awp_seq ?_
      refine awp_go hmix ?_
      refine go_run' ttok 1 rfl ?_
      refine go_nil nd ?_
      refine then_norm ?_
      refine awp_ret ?_
      refine then_ret ?_
      have e4 := of_some h
      subst e4
      refine ret_ret ?_
      refine fin0 ttok rfl rfl ?_
      exact (wkP_refl _ rfl)
    · replace h := of_bif_f h c3
      refine awp_skip ?_
      refine then_norm ?_
      refine awp_seq ?_
      refine awp_go hmix ?_
      refine go_run' ttok 1 rfl ?_
      refine go_nil nd ?_
      refine then_norm ?_
      obtain ⟨y, hx5, h⟩ := of_obind h
      refine awp_seqJ (X := Unit) [] [] (fun _ => []) (fun _ => []) (fun w => Sum.inr w = y) rfl rfl ?_ ?_
      · skip
        refine awp_seq ?_
        refine awp_go hmix ?_
        refine go_run' ttok 1 rfl ?_
        refine go_lenT encTSlice l ttok rfl rfl rfl rfl rfl rfl ?_
        refine go_run' ttok 1 rfl ?_
        refine go_nil nd ?_
        refine then_norm ?_
        refine awp_block ?_
        refine awp_loopD (X := (Int × Int)) (Y := (Int ⊕ Unit)) [13, 14] [] (fun q => [(3, (I q.1)), (15, (I q.2))]) (fun q => []) (fun q => solid_Check_s1 l q.1 q.2) (0, 0) [] hx5 ⟨rfl, rfl, rfl, rfl, rfl, ⟨wkP_id _ rfl, wkP_id _ rfl, trivial⟩, trivial⟩ (fun x vR vz hz7 hk8 => ?_)
        obtain ⟨length, vv⟩ := x
        change solid_Check_s1 l length vv = _ at hz7
        unfold solid_Check_s1 at hz7
        refine awp_seq ?_
        refine awp_go hmix ?_
        refine go_run' ttok 1 rfl ?_
        refine go_nil nd ?_
        refine then_norm ?_
        refine awp_seq ?_
        refine awp_cond (b := (decide (vv < ((l.length : Nat) : Int)))) rfl (fun c9 => ?_) (fun c9 => ?_)
        · replace hz7 := of_bif_t hz7 c9
          refine awp_skip ?_
          refine then_norm ?_
          refine awp_seq ?_
          refine awp_block ?_
          refine awp_seq ?_
          refine awp_go hmix ?_
          obtain ⟨e, hv10, hz7⟩ := of_obind hz7
          refine go_indexT encTSlice l vv e hv10 ttok rfl rfl rfl rfl rfl rfl rfl rfl rfl ?_
          refine go_run' ttok 3 rfl ?_
          refine go_nil nd ?_
          refine then_norm ?_
          refine awp_seq ?_
          refine awp_seq ?_
          refine awp_go hmix ?_
          refine go_run' ttok 2 rfl ?_
          obtain ⟨cv, hv11, hz7⟩ := of_obind hz7
          refine go_call fn45 (section_Check_w e.Sec cv hv11) rfl rfl rfl rfl rfl rfl rfl ?_
          refine go_run' ttok 1 rfl ?_
          refine go_nil nd ?_
          refine then_norm ?_
          refine awp_seq ?_
          refine awp_go hmix ?_
          refine go_run' ttok 2 rfl ?_
          refine go_nil nd ?_
          refine then_norm ?_
          refine awp_cond (b := (cv != 0)) rfl (fun c12 => ?_) (fun c12 => ?_)
          · replace hz7 := of_bif_t hz7 c12
            refine awp_seq ?_
            refine awp_go hmix ?_
            refine go_run' ttok 2 rfl ?_
            refine go_nil nd ?_
            refine then_norm ?_
            refine awp_ret ?_
            refine then_ret ?_
            refine block_ret ?_
            refine then_ret ?_
            obtain ⟨t, hn13, hq⟩ := of_mapr' hz7
            subst hq
            have hq : t = _ := hk8
            subst hq
            refine then_ret ?_
            refine block_ret ?_
            obtain ⟨t1, hn14, hq⟩ := of_mapl' hn13
            subst hq
            have hq := of_inl h
            replace hq := of_some hq
            subst hq
            refine then_ret ?_
            have e15 := of_some hn14
            subst e15
            refine ret_ret ?_
            refine fin0 ttok rfl rfl ?_
            exact (wkP_refl _ rfl)
          · replace hz7 := of_bif_f hz7 c12
            refine awp_skip ?_
            refine then_norm ?_
            refine awp_seq ?_
            refine awp_seq ?_
            refine awp_go hmix ?_
            refine go_run' ttok 3 rfl ?_
            refine go_lenT encSp e.Sec.Rows ttok rfl rfl rfl rfl rfl rfl ?_
            refine go_run' ttok 1 rfl ?_
            refine go_nil nd ?_
            refine then_norm ?_
            refine awp_cond (b := (((e.Sec.Rows.length : Nat) : Int) == 0)) rfl (fun c16 => ?_) (fun c16 => ?_)
            · replace hz7 := of_bif_t hz7 c16
              refine awp_seq ?_
              refine awp_go hmix ?_
              refine go_run' ttok 1 rfl ?_
              refine go_nil nd ?_
              refine then_norm ?_
              refine awp_ret ?_
              refine then_ret ?_
              refine block_ret ?_
              refine then_ret ?_
              obtain ⟨t2, hn17, hq⟩ := of_mapr' hz7
              subst hq
              have hq : t2 = _ := hk8
              subst hq
              refine then_ret ?_
              refine block_ret ?_
              obtain ⟨t3, hn18, hq⟩ := of_mapl' hn17
              subst hq
              have hq := of_inl h
              replace hq := of_some hq
              subst hq
              refine then_ret ?_
              have e19 := of_some hn18
              subst e19
              refine ret_ret ?_
              refine fin0 ttok rfl rfl ?_
              exact (wkP_refl _ rfl)
            · replace hz7 := of_bif_f hz7 c16
              refine awp_skip ?_
              refine then_norm ?_
              refine awp_seq ?_
              refine awp_seq ?_
              refine awp_go hmix ?_
              refine go_run' ttok 4 rfl ?_
              refine go_gcase rfl rfl rfl (fun g20 => ?_) (fun g20 => ?_)
              · rw [g20]
                replace hz7 := of_bif_t hz7 g20
                refine go_run' ttok 6 rfl ?_
                refine go_nil nd ?_
                refine then_norm ?_
                refine awp_cond rfl (fun tt0 => ?_) (fun h => by cases h)
                clear tt0
                refine awp_seq ?_
                refine awp_go hmix ?_
                refine go_run' ttok 1 rfl ?_
                refine go_nil nd ?_
                refine then_norm ?_
                refine awp_ret ?_
                refine then_ret ?_
                refine block_ret ?_
                refine then_ret ?_
                obtain ⟨t4, hn21, hq⟩ := of_mapr' hz7
                subst hq
                have hq : t4 = _ := hk8
                subst hq
                refine then_ret ?_
                refine block_ret ?_
                obtain ⟨t5, hn22, hq⟩ := of_mapl' hn21
                subst hq
                have hq := of_inl h
                replace hq := of_some hq
                subst hq
                refine then_ret ?_
                have e23 := of_some hn22
                subst e23
                refine ret_ret ?_
                refine fin0 ttok rfl rfl ?_
                exact (wkP_refl _ rfl)
              · rw [g20]
                replace hz7 := of_bif_f hz7 g20
                refine go_run' ttok 6 rfl ?_
                refine go_nil nd ?_
                refine then_norm ?_
                refine awp_cond (b := (decide ((W64 (20000 - length)) < e.Len))) rfl (fun c24 => ?_) (fun c24 => ?_)
                · replace hz7 := of_bif_t hz7 c24
                  refine awp_seq ?_
                  refine awp_go hmix ?_
                  refine go_run' ttok 1 rfl ?_
                  refine go_nil nd ?_
                  refine then_norm ?_
                  refine awp_ret ?_
                  refine then_ret ?_
                  refine block_ret ?_
                  refine then_ret ?_
                  obtain ⟨t6, hn25, hq⟩ := of_mapr' hz7
                  subst hq
                  have hq : t6 = _ := hk8
                  subst hq
                  refine then_ret ?_
                  refine block_ret ?_
                  obtain ⟨t7, hn26, hq⟩ := of_mapl' hn25
                  subst hq
                  have hq := of_inl h
                  replace hq := of_some hq
                  subst hq
                  refine then_ret ?_
                  have e27 := of_some hn26
                  subst e27
                  refine ret_ret ?_
                  refine fin0 ttok rfl rfl ?_
                  exact (wkP_refl _ rfl)
                · replace hz7 := of_bif_f hz7 c24
                  refine awp_skip ?_
                  refine then_norm ?_
                  refine awp_go hmix ?_
                  refine go_run' ttok 5 rfl ?_
                  refine go_nil nd ?_
                  refine block_norm ?_
                  refine then_norm ?_
                  refine awp_go hmix ?_
                  refine go_run' ttok 2 rfl ?_
                  refine go_nil nd ?_
                  have e28 := of_some hz7
                  subst e28
                  refine then_norm ⟨rfl, ((W64 (length + e.Len)), (W64 (vv + 1))), [], ⟨rfl, rfl, rfl, rfl, rfl, ⟨wkP_id _ rfl, wkP_id _ rfl, trivial⟩, trivial⟩, hk8⟩
        · replace hz7 := of_bif_f hz7 c9
          refine awp_exit ?_
          refine then_exit ?_
          obtain ⟨t8, hn29, hq⟩ := of_mapr' hz7
          subst hq
          have hq : t8 = _ := hk8
          subst hq
          refine then_exit ?_
          refine block_here ?_
          have e30 := of_some hn29
          refine then_norm ⟨rfl, (), [], ⟨rfl, rfl, rfl, rfl, rfl, trivial, trivial⟩, e30⟩
      · intro w hw6
        subst hw6
        replace h := of_inr h
        refine awp_seq ?_
        refine awp_go hmix ?_
        refine go_run' ttok 1 rfl ?_
        refine go_nil nd ?_
        refine then_norm ?_
        refine awp_ret ?_
        have e31 := of_some h
        subst e31
        refine ret_ret ?_
        refine fin0 ttok rfl rfl ?_
        exact (wkP_refl _ rfl)
noncomputable def solid_Check_cs1 (N : Nat) (l : (List TSlice)) (length : Int) (vv : Int) : Option ((Int × Int) ⊕ (Int ⊕ Unit)) :=
  (bif (decide (vv < ((l.length : Nat) : Int))) then (Option.bind (getI l vv) (fun e => (Option.bind ((section_Check_c N) e.Sec) (fun cv => (bif (cv != 0) then some (Sum.inr (Sum.inl cv)) else (bif (((e.Sec.Rows.length : Nat) : Int) == 0) then some (Sum.inr (Sum.inl 18)) else (bif (decide (e.Len < 1)) then some (Sum.inr (Sum.inl 9)) else (bif (decide ((W64 (20000 - length)) < e.Len)) then some (Sum.inr (Sum.inl 9)) else some (Sum.inl ((W64 (length + e.Len)), (W64 (vv + 1)))))))))))) else some (Sum.inr (Sum.inr ())))
theorem solid_Check_cs1_le (N : Nat) (l : (List TSlice)) (length : Int) (vv : Int) : OLe (solid_Check_cs1 N l length vv) (solid_Check_s1 l length vv) := by
  unfold solid_Check_cs1 solid_Check_s1
  repeat' (first | exact ole_rfl | exact section_Check_le _ _ | refine ole_bif ?_ ?_ | refine ole_bind ?_ (fun _ => ?_) | refine ole_let (fun _ => ?_) | refine ole_map ?_ | refine ole_elim (fun _ => ?_) (fun _ => ?_) | refine ole_loop (fun _ => ?_))
noncomputable def solid_Check_c (N : Nat) (l : (List TSlice)) : Option Int :=
  (bif (((l.length : Nat) : Int) == 0) then some 3 else (bif (decide (24 < ((l.length : Nat) : Int))) then some 4 else (Option.bind ((iterX N (fun q => solid_Check_cs1 N l q.1 q.2) (0, 0)) : Option (Int ⊕ Unit)) (Sum.elim (fun q => some q) (fun _ => some 0)))))
theorem solid_Check_le (N : Nat) (l : (List TSlice)) : OLe (solid_Check_c N l) (solid_Check_g l) := by
  unfold solid_Check_c solid_Check_g
  repeat' (first | exact ole_rfl | exact section_Check_le _ _ | exact solid_Check_cs1_le _ _ _ _ | refine ole_bif ?_ ?_ | refine ole_bind ?_ (fun _ => ?_) | refine ole_let (fun _ => ?_) | refine ole_map ?_ | refine ole_elim (fun _ => ?_) (fun _ => ?_) | refine ole_loop (fun _ => ?_))

/-- sawmill/defect.isEmpty -/
noncomputable def defect_isEmpty_g (s : Sp) : Bool :=
  (decide (s.b ≤ s.a))
theorem defect_isEmpty_w (s : Sp) (r : Bool) (h : defect_isEmpty_g s = r) : Holds Try.prog 96 [(encSp s)] [] (B r) [] := by
  unfold defect_isEmpty_g at h
  refine holds_fn Try.func96 rfl Try.ntmps96 rfl rfl rfl ?_
  refine awp_seq ?_
  refine awp_go hmix ?_
  refine go_run' ttok 2 rfl ?_
  refine go_nil nd ?_
  refine then_norm ?_
  refine awp_seq ?_
  refine awp_go hmix ?_
  refine go_run' ttok 6 rfl ?_
  refine go_nil nd ?_
  refine then_norm ?_
  refine awp_ret ?_
  have e1 := h
  subst e1
  refine ret_ret ?_
  refine fin0 ttok rfl rfl ?_
  exact (wkP_refl _ rfl)

/-- sawmill/defect.inside -/
noncomputable def defect_inside_g (s : Sp) (low : Int) (high : Int) : Bool :=
  (bif (decide (low ≤ (min s.a s.b))) then (decide ((max s.a s.b) ≤ high)) else false)
theorem defect_inside_w (s : Sp) (low : Int) (high : Int) (r : Bool) (h : defect_inside_g s low high = r) : Holds Try.prog 97 [(encSp s), (I low), (I high)] [] (B r) [] := by
  unfold defect_inside_g at h
  refine holds_fn Try.func97 rfl Try.ntmps97 rfl rfl rfl ?_
  refine awp_seq ?_
  refine awp_go hmix ?_
  refine go_run' ttok 2 rfl ?_
  refine go_nil nd ?_
  refine then_norm ?_
  refine awp_seq ?_
  refine awp_go hmix ?_
  refine go_run' ttok 8 rfl ?_
  refine go_gcase rfl rfl rfl (fun g1 => ?_) (fun g1 => ?_)
  · rw [g1]
    replace h := of_bif_t h g1
    refine go_run' ttok 9 rfl ?_
    refine go_nil nd ?_
    refine then_norm ?_
    refine awp_ret ?_
    have e2 := h
    subst e2
    refine ret_ret ?_
    refine fin0 ttok rfl rfl ?_
    exact (wkP_refl _ rfl)
  · rw [g1]
    replace h := of_bif_f h g1
    refine go_run' ttok 9 rfl ?_
    refine go_nil nd ?_
    refine then_norm ?_
    refine awp_ret ?_
    have e3 := h
    subst e3
    refine ret_ret ?_
    refine fin0 ttok rfl rfl ?_
    exact (wkP_refl _ rfl)

/-- sawmill/defect.check -/
noncomputable def defect_check_g (d : Df) : Int :=
  (letB ((bif (decide (d.k < 1)) then true else (decide (6 < d.k))) : Bool) (fun vv => (bif vv then 10 else (letB ((bif (defect_isEmpty_g d.b.x) then true else (bif (defect_isEmpty_g d.b.y) then true else (defect_isEmpty_g d.b.z))) : Bool) (fun vv1 => (bif vv1 then 19 else (bif (!(defect_inside_g d.b.x (-600) 600)) then 9 else (bif (!(defect_inside_g d.b.y (-600) 600)) then 9 else (bif (!(defect_inside_g d.b.z 0 20000)) then 9 else 0)))))))))
theorem defect_check_w (d : Df) (r : Int) (h : defect_check_g d = r) : Holds Try.prog 85 [(encDf d)] [] (I r) [] := by
  unfold defect_check_g at h
  refine holds_fn Try.func85 rfl Try.ntmps85 rfl rfl rfl ?_
  refine awp_seq ?_
  refine awp_go hmix ?_
  refine go_run' ttok 2 rfl ?_
  refine go_nil nd ?_
  refine then_norm ?_
  refine awp_seq ?_
  refine awp_go hmix ?_
  refine go_run' ttok 4 rfl ?_
  refine go_nil nd ?_
  refine then_norm ?_
  refine awp_seq ?_
  refine awp_block ?_
  obtain ⟨y, hx1, h⟩ := of_let h
  refine awp_seqJ (X := Bool) [3] [3] (fun w => [(6, (B w))]) (fun w => []) (fun w => w = y) rfl rfl ?_ ?_
  · skip
    refine awp_go hmix ?_
    refine go_run' ttok 4 rfl ?_
    refine go_gcase rfl rfl rfl (fun g3 => ?_) (fun g3 => ?_)
    · rw [g3]
      replace hx1 := of_bif_t hx1 g3
      refine go_run' ttok 5 rfl ?_
      refine go_nil nd ?_
      have e4 := hx1
      refine then_norm ⟨rfl, true, [(3, some 3)], ⟨rfl, rfl, rfl, rfl, rfl, ⟨wkP_id _ rfl, trivial⟩, trivial⟩, e4⟩
    · rw [g3]
      replace hx1 := of_bif_f hx1 g3
      refine go_run' ttok 5 rfl ?_
      refine go_nil nd ?_
      have e5 := hx1
      refine then_norm ⟨rfl, (decide (6 < d.k)), [(3, some 3)], ⟨rfl, rfl, rfl, rfl, rfl, ⟨wkP_id _ rfl, trivial⟩, trivial⟩, e5⟩
  · intro vv hw2
    subst hw2
    refine awp_cond (b := vv) rfl (fun c6 => ?_) (fun c6 => ?_)
    · replace h := of_bif_t h c6
      refine awp_seq ?_
      refine awp_go hmix ?_
      refine go_run' ttok 1 rfl ?_
      refine go_nil nd ?_
      refine then_norm ?_
      refine awp_ret ?_
      refine block_ret ?_
      refine then_ret ?_
      have e7 := h
      subst e7
      refine ret_ret ?_
      refine fin0 ttok rfl rfl ?_
      exact (wkP_refl _ rfl)
    · replace h := of_bif_f h c6
      obtain ⟨y1, hx8, h⟩ := of_let h
      refine awp_seqJ (X := Bool) [3] [3] (fun w1 => [(15, (B w1))]) (fun w1 => []) (fun w1 => w1 = y1) rfl rfl ?_ ?_
      · skip
        refine awp_go hmix ?_
        refine go_run' ttok 2 rfl ?_
        refine go_call fn96 (defect_isEmpty_w d.b.x _ rfl) rfl rfl rfl rfl rfl rfl rfl ?_
        refine go_run' ttok 1 rfl ?_
        refine go_gcase rfl rfl rfl (fun g10 => ?_) (fun g10 => ?_)
        · rw [g10]
          replace hx8 := of_bif_t hx8 g10
          refine go_run' ttok 10 rfl ?_
          refine go_nil nd ?_
          have e11 := hx8
          refine then_norm ⟨rfl, true, [(3, some 3)], ⟨rfl, rfl, rfl, rfl, rfl, ⟨wkP_id _ rfl, trivial⟩, trivial⟩, e11⟩
        · rw [g10]
          replace hx8 := of_bif_f hx8 g10
          refine go_run' ttok 2 rfl ?_
          refine go_call fn96 (defect_isEmpty_w d.b.y _ rfl) rfl rfl rfl rfl rfl rfl rfl ?_
          refine go_run' ttok 2 rfl ?_
          refine go_gcase rfl rfl rfl (fun g12 => ?_) (fun g12 => ?_)
          · rw [g12]
            replace hx8 := of_bif_t hx8 g12
            refine go_run' ttok 5 rfl ?_
            refine go_nil nd ?_
            have e13 := hx8
            refine then_norm ⟨rfl, true, [(3, some 3)], ⟨rfl, rfl, rfl, rfl, rfl, ⟨wkP_id _ rfl, trivial⟩, trivial⟩, e13⟩
          · rw [g12]
            replace hx8 := of_bif_f hx8 g12
            refine go_run' ttok 2 rfl ?_
            refine go_call fn96 (defect_isEmpty_w d.b.z _ rfl) rfl rfl rfl rfl rfl rfl rfl ?_
            refine go_run' ttok 2 rfl ?_
            refine go_nil nd ?_
            have e14 := hx8
            refine then_norm ⟨rfl, (defect_isEmpty_g d.b.z), [(3, some 3)], ⟨rfl, rfl, rfl, rfl, rfl, ⟨wkP_id _ rfl, trivial⟩, trivial⟩, e14⟩
      · intro vv1 hw9
        subst hw9
        refine awp_cond (b := vv1) rfl (fun c15 => ?_) (fun c15 => ?_)
        · replace h := of_bif_t h c15
          refine awp_seq ?_
          refine awp_go hmix ?_
          refine go_run' ttok 1 rfl ?_
          refine go_nil nd ?_
          refine then_norm ?_
          refine awp_ret ?_
          refine block_ret ?_
          refine then_ret ?_
          have e16 := h
          subst e16
          refine ret_ret ?_
          refine fin0 ttok rfl rfl ?_
          exact (wkP_refl _ rfl)
        · replace h := of_bif_f h c15
          refine awp_seq ?_
          refine awp_go hmix ?_
          refine go_run' ttok 2 rfl ?_
          refine go_call fn97 (defect_inside_w d.b.x (-600) 600 _ rfl) rfl rfl rfl rfl rfl rfl rfl ?_
          refine go_run' ttok 2 rfl ?_
          refine go_gcase rfl rfl rfl (fun g17 => ?_) (fun g17 => ?_)
          · rw [g17]
            replace h := of_bif_t h g17
            refine go_run' ttok 12 rfl ?_
            refine go_nil nd ?_
            refine then_norm ?_
            refine awp_cond rfl (fun tt0 => ?_) (fun h => by cases h)
            clear tt0
            refine awp_seq ?_
            refine awp_go hmix ?_
            refine go_run' ttok 1 rfl ?_
            refine go_nil nd ?_
            refine then_norm ?_
            refine awp_ret ?_
            refine block_ret ?_
            refine then_ret ?_
            have e18 := h
            subst e18
            refine ret_ret ?_
            refine fin0 ttok rfl rfl ?_
            exact (wkP_refl _ rfl)
          · rw [g17]
            replace h := of_bif_f h g17
            refine go_run' ttok 2 rfl ?_
            refine go_call fn97 (defect_inside_w d.b.y (-600) 600 _ rfl) rfl rfl rfl rfl rfl rfl rfl ?_
            refine go_run' ttok 3 rfl ?_
            refine go_gcase rfl rfl rfl (fun g19 => ?_) (fun g19 => ?_)
            · rw [g19]
              replace h := of_bif_t h g19
              refine go_run' ttok 6 rfl ?_
              refine go_nil nd ?_
              refine then_norm ?_
              refine awp_cond rfl (fun tt0 => ?_) (fun h => by cases h)
              clear tt0
              refine awp_seq ?_
              refine awp_go hmix ?_
              refine go_run' ttok 1 rfl ?_
              refine go_nil nd ?_
              refine then_norm ?_
              refine awp_ret ?_
              refine block_ret ?_
              refine then_ret ?_
              have e20 := h
              subst e20
              refine ret_ret ?_
              refine fin0 ttok rfl rfl ?_
              exact (wkP_refl _ rfl)
            · rw [g19]
              replace h := of_bif_f h g19
              refine go_run' ttok 2 rfl ?_
              refine go_call fn97 (defect_inside_w d.b.z 0 20000 _ rfl) rfl rfl rfl rfl rfl rfl rfl ?_
              refine go_run' ttok 3 rfl ?_
              refine go_nil nd ?_
              refine then_norm ?_
              refine awp_cond (b := (!(defect_inside_g d.b.z 0 20000))) rfl (fun c21 => ?_) (fun c21 => ?_)
              · replace h := of_bif_t h c21
                refine awp_seq ?_
                refine awp_go hmix ?_
                refine go_run' ttok 1 rfl ?_
                refine go_nil nd ?_
                refine then_norm ?_
                refine awp_ret ?_
                refine block_ret ?_
                refine then_ret ?_
                have e22 := h
                subst e22
                refine ret_ret ?_
                refine fin0 ttok rfl rfl ?_
                exact (wkP_refl _ rfl)
              · replace h := of_bif_f h c21
                refine awp_skip ?_
                refine block_norm ?_
                refine then_norm ?_
                refine awp_seq ?_
                refine awp_go hmix ?_
                refine go_run' ttok 1 rfl ?_
                refine go_nil nd ?_
                refine then_norm ?_
                refine awp_ret ?_
                have e23 := h
                subst e23
                refine ret_ret ?_
                refine fin0 ttok rfl rfl ?_
                exact (wkP_refl _ rfl)

noncomputable def defect_Check_s1 (l : (List Df)) (vv : Int) : Option (Int ⊕ (Int ⊕ Unit)) :=
  (bif (decide (vv < ((l.length : Nat) : Int))) then (Option.bind (getI l vv) (fun e => (bif ((defect_check_g e) != 0) then some (Sum.inr (Sum.inl (defect_check_g e))) else some (Sum.inl (W64 (vv + 1)))))) else some (Sum.inr (Sum.inr ())))
/-- sawmill/defect.Check -/
noncomputable def defect_Check_g (l : (List Df)) : Option Int :=
  (bif (decide (64 < ((l.length : Nat) : Int))) then some 4 else (Option.bind ((loopO (fun q => defect_Check_s1 l q) 0) : Option (Int ⊕ Unit)) (Sum.elim (fun q => some q) (fun _ => some 0))))
theorem defect_Check_w (l : (List Df)) (r : Int) (h : defect_Check_g l = some r) : Holds Try.prog 72 [((encL encDf) l)] [] (I r) [] := by
  unfold defect_Check_g at h
  refine holds_fn Try.func72 rfl Try.ntmps72 rfl rfl rfl ?_
  refine awp_seq ?_
  refine awp_go hmix ?_
  refine go_run' ttok 1 rfl ?_
  refine go_nil nd ?_
  refine then_norm ?_
  refine awp_seq ?_
  refine awp_seq ?_
  refine awp_go hmix ?_
  refine go_run' ttok 1 rfl ?_
  refine go_lenT encDf l ttok rfl rfl rfl rfl rfl rfl ?_
  refine go_run' ttok 1 rfl ?_
  refine go_nil nd ?_
  refine then_norm ?_
  refine awp_cond (b := (decide (64 < ((l.length : Nat) : Int)))) rfl (fun c1 => ?_) (fun c1 => ?_)
  · replace h := of_bif_t h c1
    refine awp_seq ?_
    refine awp_go hmix ?_
    refine go_run' ttok 1 rfl ?_
    refine go_nil nd ?_
    refine then_norm ?_
    refine awp_ret ?_
    refine then_ret ?_
    have e2 := of_some h
    subst e2
    refine ret_ret ?_
    refine fin0 ttok rfl rfl ?_
    exact (wkP_refl _ rfl)
  · replace h := of_bif_f h c1
    refine awp_skip ?_
    refine then_norm ?_
    obtain ⟨y, hx3, h⟩ := of_obind h
    refine awp_seqJ (X := Unit) [] [] (fun _ => []) (fun _ => []) (fun w => Sum.inr w = y) rfl rfl ?_ ?_
    · skip
      refine awp_seq ?_
      refine awp_go hmix ?_
      refine go_run' ttok 1 rfl ?_
      refine go_lenT encDf l ttok rfl rfl rfl rfl rfl rfl ?_
      refine go_run' ttok 1 rfl ?_
      refine go_nil nd ?_
      refine then_norm ?_
      refine awp_block ?_
      refine awp_loopD (X := Int) (Y := (Int ⊕ Unit)) [9, 10] [] (fun q => [(11, (I q))]) (fun q => []) (fun q => defect_Check_s1 l q) 0 [] hx3 ⟨rfl, rfl, rfl, rfl, rfl, ⟨wkP_id _ rfl, trivial⟩, trivial⟩ (fun vv vR vz hz5 hk6 => ?_)
      change defect_Check_s1 l vv = _ at hz5
      unfold defect_Check_s1 at hz5
      refine awp_seq ?_
      refine awp_go hmix ?_
      refine go_run' ttok 1 rfl ?_
      refine go_nil nd ?_
      refine then_norm ?_
      refine awp_seq ?_
      refine awp_cond (b := (decide (vv < ((l.length : Nat) : Int)))) rfl (fun c7 => ?_) (fun c7 => ?_)
      · replace hz5 := of_bif_t hz5 c7
        refine awp_skip ?_
        refine then_norm ?_
        refine awp_seq ?_
        refine awp_block ?_
        refine awp_seq ?_
        refine awp_go hmix ?_
        obtain ⟨e, hv8, hz5⟩ := of_obind hz5
        refine go_indexT encDf l vv e hv8 ttok rfl rfl rfl rfl rfl rfl rfl rfl rfl ?_
        refine go_run' ttok 3 rfl ?_
        refine go_nil nd ?_
        refine then_norm ?_
        refine awp_seq ?_
        refine awp_go hmix ?_
        refine go_run' ttok 1 rfl ?_
        refine go_call fn85 (defect_check_w e _ rfl) rfl rfl rfl rfl rfl rfl rfl ?_
        refine go_run' ttok 1 rfl ?_
        refine go_nil nd ?_
        refine then_norm ?_
        refine awp_seq ?_
        refine awp_go hmix ?_
        refine go_run' ttok 2 rfl ?_
        refine go_nil nd ?_
        refine then_norm ?_
        refine awp_cond (b := ((defect_check_g e) != 0)) rfl (fun c9 => ?_) (fun c9 => ?_)
        · replace hz5 := of_bif_t hz5 c9
          refine awp_seq ?_
          refine awp_go hmix ?_
          refine go_run' ttok 2 rfl ?_
          refine go_nil nd ?_
          refine then_norm ?_
          refine awp_ret ?_
          refine block_ret ?_
          refine then_ret ?_
          obtain ⟨t, hn10, hq⟩ := of_mapr' hz5
          subst hq
          have hq : t = _ := hk6
          subst hq
          refine then_ret ?_
          refine block_ret ?_
          obtain ⟨t1, hn11, hq⟩ := of_mapl' hn10
          subst hq
          have hq := of_inl h
          replace hq := of_some hq
          subst hq
          refine then_ret ?_
          have e12 := of_some hn11
          subst e12
          refine ret_ret ?_
          refine fin0 ttok rfl rfl ?_
          exact (wkP_refl _ rfl)
        · replace hz5 := of_bif_f hz5 c9
          refine awp_skip ?_
          refine block_norm ?_
          refine then_norm ?_
          refine awp_go hmix ?_
          refine go_run' ttok 2 rfl ?_
          refine go_nil nd ?_
          have e13 := of_some hz5
          subst e13
          refine then_norm ⟨rfl, (W64 (vv + 1)), [], ⟨rfl, rfl, rfl, rfl, rfl, ⟨wkP_id _ rfl, trivial⟩, trivial⟩, hk6⟩
      · replace hz5 := of_bif_f hz5 c7
        refine awp_exit ?_
        refine then_exit ?_
        obtain ⟨t2, hn14, hq⟩ := of_mapr' hz5
        subst hq
        have hq : t2 = _ := hk6
        subst hq
        refine then_exit ?_
        refine block_here ?_
        have e15 := of_some hn14
        refine then_norm ⟨rfl, (), [], ⟨rfl, rfl, rfl, rfl, rfl, trivial, trivial⟩, e15⟩
    · intro w hw4
      subst hw4
      replace h := of_inr h
      refine awp_seq ?_
      refine awp_go hmix ?_
      refine go_run' ttok 1 rfl ?_
      refine go_nil nd ?_
      refine then_norm ?_
      refine awp_ret ?_
      have e16 := of_some h
      subst e16
      refine ret_ret ?_
      refine fin0 ttok rfl rfl ?_
      exact (wkP_refl _ rfl)
noncomputable def defect_Check_cs1 (N : Nat) (l : (List Df)) (vv : Int) : Option (Int ⊕ (Int ⊕ Unit)) :=
  (bif (decide (vv < ((l.length : Nat) : Int))) then (Option.bind (getI l vv) (fun e => (bif ((defect_check_g e) != 0) then some (Sum.inr (Sum.inl (defect_check_g e))) else some (Sum.inl (W64 (vv + 1)))))) else some (Sum.inr (Sum.inr ())))
theorem defect_Check_cs1_le (N : Nat) (l : (List Df)) (vv : Int) : OLe (defect_Check_cs1 N l vv) (defect_Check_s1 l vv) := by
  unfold defect_Check_cs1 defect_Check_s1
  repeat' (first | exact ole_rfl | refine ole_bif ?_ ?_ | refine ole_bind ?_ (fun _ => ?_) | refine ole_let (fun _ => ?_) | refine ole_map ?_ | refine ole_elim (fun _ => ?_) (fun _ => ?_) | refine ole_loop (fun _ => ?_))
noncomputable def defect_Check_c (N : Nat) (l : (List Df)) : Option Int :=
  (bif (decide (64 < ((l.length : Nat) : Int))) then some 4 else (Option.bind ((iterX N (fun q => defect_Check_cs1 N l q) 0) : Option (Int ⊕ Unit)) (Sum.elim (fun q => some q) (fun _ => some 0))))
theorem defect_Check_le (N : Nat) (l : (List Df)) : OLe (defect_Check_c N l) (defect_Check_g l) := by
  unfold defect_Check_c defect_Check_g
  repeat' (first | exact ole_rfl | exact defect_Check_cs1_le _ _ _ | refine ole_bif ?_ ?_ | refine ole_bind ?_ (fun _ => ?_) | refine ole_let (fun _ => ?_) | refine ole_map ?_ | refine ole_elim (fun _ => ?_) (fun _ => ?_) | refine ole_loop (fun _ => ?_))

/-- sawmill/ident.isSmall -/
noncomputable def ident_isSmall_g (c : Int) : Bool :=
  (bif (decide (97 ≤ c)) then (decide (c ≤ 122)) else false)
theorem ident_isSmall_w (c : Int) (r : Bool) (h : ident_isSmall_g c = r) : Holds Try.prog 98 [(U8 c)] [] (B r) [] := by
  unfold ident_isSmall_g at h
  refine holds_fn Try.func98 rfl Try.ntmps98 rfl rfl rfl ?_
  refine awp_seq ?_
  refine awp_go hmix ?_
  refine go_run' ttok 1 rfl ?_
  refine go_nil nd ?_
  refine then_norm ?_
  refine awp_seq ?_
  refine awp_go hmix ?_
  refine go_run' ttok 3 rfl ?_
  refine go_gcase rfl rfl rfl (fun g1 => ?_) (fun g1 => ?_)
  · rw [g1]
    replace h := of_bif_t h g1
    refine go_run' ttok 4 rfl ?_
    refine go_nil nd ?_
    refine then_norm ?_
    refine awp_ret ?_
    have e2 := h
    subst e2
    refine ret_ret ?_
    refine fin0 ttok rfl rfl ?_
    exact (wkP_refl _ rfl)
  · rw [g1]
    replace h := of_bif_f h g1
    refine go_run' ttok 4 rfl ?_
    refine go_nil nd ?_
    refine then_norm ?_
    refine awp_ret ?_
    have e3 := h
    subst e3
    refine ret_ret ?_
    refine fin0 ttok rfl rfl ?_
    exact (wkP_refl _ rfl)

/-- sawmill/ident.isDigit -/
noncomputable def ident_isDigit_g (c : Int) : Bool :=
  (bif (decide (48 ≤ c)) then (decide (c ≤ 57)) else false)
theorem ident_isDigit_w (c : Int) (r : Bool) (h : ident_isDigit_g c = r) : Holds Try.prog 99 [(U8 c)] [] (B r) [] := by
  unfold ident_isDigit_g at h
  refine holds_fn Try.func99 rfl Try.ntmps99 rfl rfl rfl ?_
  refine awp_seq ?_
  refine awp_go hmix ?_
  refine go_run' ttok 1 rfl ?_
  refine go_nil nd ?_
  refine then_norm ?_
  refine awp_seq ?_
  refine awp_go hmix ?_
  refine go_run' ttok 3 rfl ?_
  refine go_gcase rfl rfl rfl (fun g1 => ?_) (fun g1 => ?_)
  · rw [g1]
    replace h := of_bif_t h g1
    refine go_run' ttok 4 rfl ?_
    refine go_nil nd ?_
    refine then_norm ?_
    refine awp_ret ?_
    have e2 := h
    subst e2
    refine ret_ret ?_
    refine fin0 ttok rfl rfl ?_
    exact (wkP_refl _ rfl)
  · rw [g1]
    replace h := of_bif_f h g1
    refine go_run' ttok 4 rfl ?_
    refine go_nil nd ?_
    refine then_norm ?_
    refine awp_ret ?_
    have e3 := h
    subst e3
    refine ret_ret ?_
    refine fin0 ttok rfl rfl ?_
    exact (wkP_refl _ rfl)

noncomputable def ident_IsName_s1 (s : ByteArray) (i : Int) : Option (Int ⊕ (Bool ⊕ Unit)) :=
  (bif (decide (i < ((s.size : Nat) : Int))) then (Option.bind (bytO s i) (fun c1 => (bif (!(ident_isSmall_g c1)) then (bif (!(ident_isDigit_g c1)) then (bif (c1 != 95) then some (Sum.inr (Sum.inl false)) else some (Sum.inl (W64 (i + 1)))) else some (Sum.inl (W64 (i + 1)))) else some (Sum.inl (W64 (i + 1)))))) else some (Sum.inr (Sum.inr ())))
/-- sawmill/ident.IsName -/
noncomputable def ident_IsName_g (s : ByteArray) : Option Bool :=
  (bif (decide (((s.size : Nat) : Int) < 1)) then some false else (bif (decide (16 < ((s.size : Nat) : Int))) then some false else (Option.bind (bytO s 0) (fun c => (bif (!(ident_isSmall_g c)) then some false else (Option.bind ((loopO (fun q => ident_IsName_s1 s q) 1) : Option (Bool ⊕ Unit)) (Sum.elim (fun q => some q) (fun _ => some true))))))))
theorem ident_IsName_w (s : ByteArray) (r : Bool) (h : ident_IsName_g s = some r) : Holds Try.prog 86 [(S s)] [] (B r) [] := by
  unfold ident_IsName_g at h
  refine holds_fn Try.func86 rfl Try.ntmps86 rfl rfl rfl ?_
  refine awp_seq ?_
  refine awp_go hmix ?_
  refine go_run' ttok 1 rfl ?_
  refine go_nil nd ?_
  refine then_norm ?_
  refine awp_seq ?_
  refine awp_seq ?_
  refine awp_go hmix ?_
  refine go_run' ttok 4 rfl ?_
  refine go_gcase rfl rfl rfl (fun g1 => ?_) (fun g1 => ?_)
  · rw [g1]
    replace h := of_bif_t h g1
    refine go_run' ttok 10 rfl ?_
    refine go_nil nd ?_
    refine then_norm ?_
    refine awp_cond rfl (fun tt0 => ?_) (fun h => by cases h)
    clear tt0
    refine awp_seq ?_
    refine awp_go hmix ?_
    refine go_run' ttok 1 rfl ?_
    refine go_nil nd ?_
    refine then_norm ?_
    refine awp_ret ?_
    refine then_ret ?_
    have e2 := of_some h
    subst e2
    refine ret_ret ?_
    refine fin0 ttok rfl rfl ?_
    exact (wkP_refl _ rfl)
  · rw [g1]
    replace h := of_bif_f h g1
    refine go_run' ttok 5 rfl ?_
    refine go_gcase rfl rfl rfl (fun g3 => ?_) (fun g3 => ?_)
    · rw [g3]
      replace h := of_bif_t h g3
      refine go_run' ttok 5 rfl ?_
      refine go_nil nd ?_
      refine then_norm ?_
      refine awp_cond rfl (fun tt0 => ?_) (fun h => by cases h)
      clear tt0
      refine awp_seq ?_
      refine awp_go hmix ?_
      refine go_run' ttok 1 rfl ?_
      refine go_nil nd ?_
      refine then_norm ?_
      refine awp_ret ?_
      refine then_ret ?_
      have e4 := of_some h
      subst e4
      refine ret_ret ?_
      refine fin0 ttok rfl rfl ?_
      exact (wkP_refl _ rfl)
    · rw [g3]
      replace h := of_bif_f h g3
      refine go_run' ttok 1 rfl ?_
      obtain ⟨c, hv5, h⟩ := of_obind h
      refine go_indexB s 0 c hv5 ttok rfl rfl rfl rfl rfl rfl rfl ?_
      refine go_call fn98 (ident_isSmall_w c _ rfl) rfl rfl rfl rfl rfl rfl rfl ?_
      refine go_run' ttok 2 rfl ?_
      refine go_nil nd ?_
      refine then_norm ?_
      refine awp_cond (b := (!(ident_isSmall_g c))) rfl (fun c6 => ?_) (fun c6 => ?_)
      · replace h := of_bif_t h c6
        refine awp_seq ?_
        refine awp_go hmix ?_
        refine go_run' ttok 1 rfl ?_
        refine go_nil nd ?_
        refine then_norm ?_
        refine awp_ret ?_
        refine then_ret ?_
        have e7 := of_some h
        subst e7
        refine ret_ret ?_
        refine fin0 ttok rfl rfl ?_
        exact (wkP_refl _ rfl)
      · replace h := of_bif_f h c6
        refine awp_skip ?_
        refine then_norm ?_
        obtain ⟨y, hx8, h⟩ := of_obind h
        refine awp_seqJ (X := Unit) [] [] (fun _ => []) (fun _ => []) (fun w => Sum.inr w = y) rfl rfl ?_ ?_
        · skip
          refine awp_seq ?_
          refine awp_go hmix ?_
          refine go_run' ttok 1 rfl ?_
          refine go_nil nd ?_
          refine then_norm ?_
          refine awp_block ?_
          refine awp_loopD (X := Int) (Y := (Bool ⊕ Unit)) [0] [] (fun q => [(3, (I q))]) (fun q => []) (fun q => ident_IsName_s1 s q) 1 [] hx8 ⟨rfl, rfl, rfl, rfl, rfl, ⟨wkP_id _ rfl, trivial⟩, trivial⟩ (fun i vR vz hz10 hk11 => ?_)
          change ident_IsName_s1 s i = _ at hz10
          unfold ident_IsName_s1 at hz10
          refine awp_seq ?_
          refine awp_seq ?_
          refine awp_go hmix ?_
          refine go_run' ttok 4 rfl ?_
          refine go_nil nd ?_
          refine then_norm ?_
          refine awp_cond (b := (decide (i < ((s.size : Nat) : Int)))) rfl (fun c12 => ?_) (fun c12 => ?_)
          · replace hz10 := of_bif_t hz10 c12
            refine awp_skip ?_
            refine then_norm ?_
            refine awp_seq ?_
            refine awp_block ?_
            refine awp_seq ?_
            refine awp_go hmix ?_
            refine go_run' ttok 2 rfl ?_
            obtain ⟨c1, hv13, hz10⟩ := of_obind hz10
            refine go_indexB s i c1 hv13 ttok rfl rfl rfl rfl rfl rfl rfl ?_
            refine go_run' ttok 1 rfl ?_
            refine go_nil nd ?_
            refine then_norm ?_
            refine awp_seq ?_
            refine awp_go hmix ?_
            refine go_run' ttok 1 rfl ?_
            refine go_call fn98 (ident_isSmall_w c1 _ rfl) rfl rfl rfl rfl rfl rfl rfl ?_
            refine go_run' ttok 2 rfl ?_
            refine go_gcase rfl rfl rfl (fun g14 => ?_) (fun g14 => ?_)
            · rw [g14]
              replace hz10 := of_bif_t hz10 g14
              refine go_run' ttok 1 rfl ?_
              refine go_call fn99 (ident_isDigit_w c1 _ rfl) rfl rfl rfl rfl rfl rfl rfl ?_
              refine go_run' ttok 3 rfl ?_
              refine go_gcase rfl rfl rfl (fun g15 => ?_) (fun g15 => ?_)
              · rw [g15]
                replace hz10 := of_bif_t hz10 g15
                refine go_run' ttok 3 rfl ?_
                refine go_nil nd ?_
                refine then_norm ?_
                refine awp_cond (b := (c1 != 95)) rfl (fun c16 => ?_) (fun c16 => ?_)
                · replace hz10 := of_bif_t hz10 c16
                  refine awp_seq ?_
                  refine awp_go hmix ?_
                  refine go_run' ttok 1 rfl ?_
                  refine go_nil nd ?_
                  refine then_norm ?_
                  refine awp_ret ?_
                  refine block_ret ?_
                  refine then_ret ?_
                  obtain ⟨t, hn17, hq⟩ := of_mapr' hz10
                  subst hq
                  have hq : t = _ := hk11
                  subst hq
                  refine then_ret ?_
                  refine block_ret ?_
                  obtain ⟨t1, hn18, hq⟩ := of_mapl' hn17
                  subst hq
                  have hq := of_inl h
                  replace hq := of_some hq
                  subst hq
                  refine then_ret ?_
                  have e19 := of_some hn18
                  subst e19
                  refine ret_ret ?_
                  refine fin0 ttok rfl rfl ?_
                  exact (wkP_refl _ rfl)
                · replace hz10 := of_bif_f hz10 c16
                  refine awp_skip ?_
                  refine block_norm ?_
                  refine then_norm ?_
                  refine awp_go hmix ?_
                  refine go_run' ttok 3 rfl ?_
                  refine go_nil nd ?_
                  have e20 := of_some hz10
                  subst e20
                  refine then_norm ⟨rfl, (W64 (i + 1)), [], ⟨rfl, rfl, rfl, rfl, rfl, ⟨wkP_id _ rfl, trivial⟩, trivial⟩, hk11⟩
              · rw [g15]
                replace hz10 := of_bif_f hz10 g15
                refine go_run' ttok 3 rfl ?_
                refine go_nil nd ?_
                refine then_norm ?_
                refine awp_cond rfl (fun h => by cases h) (fun tt0 => ?_)
                clear tt0
                refine awp_skip ?_
                refine block_norm ?_
                refine then_norm ?_
                refine awp_go hmix ?_
                refine go_run' ttok 3 rfl ?_
                refine go_nil nd ?_
                have e21 := of_some hz10
                subst e21
                refine then_norm ⟨rfl, (W64 (i + 1)), [], ⟨rfl, rfl, rfl, rfl, rfl, ⟨wkP_id _ rfl, trivial⟩, trivial⟩, hk11⟩
            · rw [g14]
              replace hz10 := of_bif_f hz10 g14
              refine go_run' ttok 8 rfl ?_
              refine go_nil nd ?_
              refine then_norm ?_
              refine awp_cond rfl (fun h => by cases h) (fun tt0 => ?_)
              clear tt0
              refine awp_skip ?_
              refine block_norm ?_
              refine then_norm ?_
              refine awp_go hmix ?_
              refine go_run' ttok 3 rfl ?_
              refine go_nil nd ?_
              have e22 := of_some hz10
              subst e22
              refine then_norm ⟨rfl, (W64 (i + 1)), [], ⟨rfl, rfl, rfl, rfl, rfl, ⟨wkP_id _ rfl, trivial⟩, trivial⟩, hk11⟩
          · replace hz10 := of_bif_f hz10 c12
            refine awp_exit ?_
            refine then_exit ?_
            obtain ⟨t2, hn23, hq⟩ := of_mapr' hz10
            subst hq
            have hq : t2 = _ := hk11
            subst hq
            refine then_exit ?_
            refine block_here ?_
            have e24 := of_some hn23
            refine then_norm ⟨rfl, (), [], ⟨rfl, rfl, rfl, rfl, rfl, trivial, trivial⟩, e24⟩
        · intro w hw9
          subst hw9
          replace h := of_inr h
          refine awp_seq ?_
          refine awp_go hmix ?_
          refine go_run' ttok 1 rfl ?_
          refine go_nil nd ?_
          refine then_norm ?_
          refine awp_ret ?_
          have e25 := of_some h
          subst e25
          refine ret_ret ?_
          refine fin0 ttok rfl rfl ?_
          exact (wkP_refl _ rfl)
noncomputable def ident_IsName_cs1 (N : Nat) (s : ByteArray) (i : Int) : Option (Int ⊕ (Bool ⊕ Unit)) :=
  (bif (decide (i < ((s.size : Nat) : Int))) then (Option.bind (bytO s i) (fun c1 => (bif (!(ident_isSmall_g c1)) then (bif (!(ident_isDigit_g c1)) then (bif (c1 != 95) then some (Sum.inr (Sum.inl false)) else some (Sum.inl (W64 (i + 1)))) else some (Sum.inl (W64 (i + 1)))) else some (Sum.inl (W64 (i + 1)))))) else some (Sum.inr (Sum.inr ())))
theorem ident_IsName_cs1_le (N : Nat) (s : ByteArray) (i : Int) : OLe (ident_IsName_cs1 N s i) (ident_IsName_s1 s i) := by
  unfold ident_IsName_cs1 ident_IsName_s1
  repeat' (first | exact ole_rfl | refine ole_bif ?_ ?_ | refine ole_bind ?_ (fun _ => ?_) | refine ole_let (fun _ => ?_) | refine ole_map ?_ | refine ole_elim (fun _ => ?_) (fun _ => ?_) | refine ole_loop (fun _ => ?_))
noncomputable def ident_IsName_c (N : Nat) (s : ByteArray) : Option Bool :=
  (bif (decide (((s.size : Nat) : Int) < 1)) then some false else (bif (decide (16 < ((s.size : Nat) : Int))) then some false else (Option.bind (bytO s 0) (fun c => (bif (!(ident_isSmall_g c)) then some false else (Option.bind ((iterX N (fun q => ident_IsName_cs1 N s q) 1) : Option (Bool ⊕ Unit)) (Sum.elim (fun q => some q) (fun _ => some true))))))))
theorem ident_IsName_le (N : Nat) (s : ByteArray) : OLe (ident_IsName_c N s) (ident_IsName_g s) := by
  unfold ident_IsName_c ident_IsName_g
  repeat' (first | exact ole_rfl | exact ident_IsName_cs1_le _ _ _ | refine ole_bif ?_ ?_ | refine ole_bind ?_ (fun _ => ?_) | refine ole_let (fun _ => ?_) | refine ole_map ?_ | refine ole_elim (fun _ => ?_) (fun _ => ?_) | refine ole_loop (fun _ => ?_))

noncomputable def product_Find_s1 (l : (List TProduct)) (name : ByteArray) (vv : Int) : Option (Int ⊕ ((Int × Bool) ⊕ Unit)) :=
  (bif (decide (vv < ((l.length : Nat) : Int))) then (Option.bind (getI l vv) (fun e => (bif (bEq e.Name name) then some (Sum.inr (Sum.inl (vv, true))) else some (Sum.inl (W64 (vv + 1)))))) else some (Sum.inr (Sum.inr ())))
/-- sawmill/product.Find -/
noncomputable def product_Find_g (l : (List TProduct)) (name : ByteArray) : Option (Int × Bool) :=
  (Option.bind ((loopO (fun q => product_Find_s1 l name q) 0) : Option ((Int × Bool) ⊕ Unit)) (Sum.elim (fun q => some q) (fun _ => some (0, false))))
theorem product_Find_w (l : (List TProduct)) (name : ByteArray) (r : (Int × Bool)) (h : product_Find_g l name = some r) : Holds Try.prog 87 [((encL encTProduct) l), (S name)] [] (.tup [(I r.1), (B r.2)]) [] := by
  unfold product_Find_g at h
  refine holds_fn Try.func87 rfl Try.ntmps87 rfl rfl rfl ?_
  refine awp_seq ?_
  refine awp_go hmix ?_
  refine go_run' ttok 2 rfl ?_
  refine go_nil nd ?_
  refine then_norm ?_
  obtain ⟨y, hx1, h⟩ := of_obind h
  refine awp_seqJ (X := Unit) [] [] (fun _ => []) (fun _ => []) (fun w => Sum.inr w = y) rfl rfl ?_ ?_
  · skip
    refine awp_seq ?_
    refine awp_go hmix ?_
    refine go_run' ttok 1 rfl ?_
    refine go_lenT encTProduct l ttok rfl rfl rfl rfl rfl rfl ?_
    refine go_run' ttok 1 rfl ?_
    refine go_nil nd ?_
    refine then_norm ?_
    refine awp_block ?_
    refine awp_loopD (X := Int) (Y := ((Int × Bool) ⊕ Unit)) [1, 8, 9] [] (fun q => [(10, (I q))]) (fun q => []) (fun q => product_Find_s1 l name q) 0 [] hx1 ⟨rfl, rfl, rfl, rfl, rfl, ⟨wkP_id _ rfl, trivial⟩, trivial⟩ (fun vv vR vz hz3 hk4 => ?_)
    change product_Find_s1 l name vv = _ at hz3
    unfold product_Find_s1 at hz3
    refine awp_seq ?_
    refine awp_go hmix ?_
    refine go_run' ttok 1 rfl ?_
    refine go_nil nd ?_
    refine then_norm ?_
    refine awp_seq ?_
    refine awp_cond (b := (decide (vv < ((l.length : Nat) : Int)))) rfl (fun c5 => ?_) (fun c5 => ?_)
    · replace hz3 := of_bif_t hz3 c5
      refine awp_skip ?_
      refine then_norm ?_
      refine awp_seq ?_
      refine awp_block ?_
      refine awp_seq ?_
      refine awp_go hmix ?_
      refine go_run' ttok 1 rfl ?_
      obtain ⟨e, hv6, hz3⟩ := of_obind hz3
      refine go_indexT encTProduct l vv e hv6 ttok rfl rfl rfl rfl rfl rfl rfl rfl rfl ?_
      refine go_run' ttok 4 rfl ?_
      refine go_nil nd ?_
      refine then_norm ?_
      refine awp_seq ?_
      refine awp_go hmix ?_
      refine go_run' ttok 3 rfl ?_
      refine go_eqlS e.Name name rfl rfl rfl rfl rfl ?_
      refine go_nil nd ?_
      refine then_norm ?_
      refine awp_cond (b := (bEq e.Name name)) rfl (fun c7 => ?_) (fun c7 => ?_)
      · replace hz3 := of_bif_t hz3 c7
        refine awp_seq ?_
        refine awp_go hmix ?_
        refine go_run' ttok 3 rfl ?_
        refine go_nil nd ?_
        refine then_norm ?_
        refine awp_ret ?_
        refine block_ret ?_
        refine then_ret ?_
        obtain ⟨t, hn8, hq⟩ := of_mapr' hz3
        subst hq
        have hq : t = _ := hk4
        subst hq
        refine then_ret ?_
        refine block_ret ?_
        obtain ⟨t1, hn9, hq⟩ := of_mapl' hn8
        subst hq
        have hq := of_inl h
        replace hq := of_some hq
        subst hq
        refine then_ret ?_
        have e10 := of_some hn9
        subst e10
        refine ret_ret ?_
        refine fin0 ttok rfl rfl ?_
        exact wkP_refl _ rfl
      · replace hz3 := of_bif_f hz3 c7
        refine awp_skip ?_
        refine block_norm ?_
        refine then_norm ?_
        refine awp_go hmix ?_
        refine go_run' ttok 2 rfl ?_
        refine go_nil nd ?_
        have e11 := of_some hz3
        subst e11
        refine then_norm ⟨rfl, (W64 (vv + 1)), [], ⟨rfl, rfl, rfl, rfl, rfl, ⟨wkP_id _ rfl, trivial⟩, trivial⟩, hk4⟩
    · replace hz3 := of_bif_f hz3 c5
      refine awp_exit ?_
      refine then_exit ?_
      obtain ⟨t2, hn12, hq⟩ := of_mapr' hz3
      subst hq
      have hq : t2 = _ := hk4
      subst hq
      refine then_exit ?_
      refine block_here ?_
      have e13 := of_some hn12
      refine then_norm ⟨rfl, (), [], ⟨rfl, rfl, rfl, rfl, rfl, trivial, trivial⟩, e13⟩
  · intro w hw2
    subst hw2
    replace h := of_inr h
    refine awp_seq ?_
    refine awp_go hmix ?_
    refine go_run' ttok 2 rfl ?_
    refine go_nil nd ?_
    refine then_norm ?_
    refine awp_ret ?_
    have e14 := of_some h
    subst e14
    refine ret_ret ?_
    refine fin0 ttok rfl rfl ?_
    exact wkP_refl _ rfl
noncomputable def product_Find_cs1 (N : Nat) (l : (List TProduct)) (name : ByteArray) (vv : Int) : Option (Int ⊕ ((Int × Bool) ⊕ Unit)) :=
  (bif (decide (vv < ((l.length : Nat) : Int))) then (Option.bind (getI l vv) (fun e => (bif (bEq e.Name name) then some (Sum.inr (Sum.inl (vv, true))) else some (Sum.inl (W64 (vv + 1)))))) else some (Sum.inr (Sum.inr ())))
theorem product_Find_cs1_le (N : Nat) (l : (List TProduct)) (name : ByteArray) (vv : Int) : OLe (product_Find_cs1 N l name vv) (product_Find_s1 l name vv) := by
  unfold product_Find_cs1 product_Find_s1
  repeat' (first | exact ole_rfl | refine ole_bif ?_ ?_ | refine ole_bind ?_ (fun _ => ?_) | refine ole_let (fun _ => ?_) | refine ole_map ?_ | refine ole_elim (fun _ => ?_) (fun _ => ?_) | refine ole_loop (fun _ => ?_))
noncomputable def product_Find_c (N : Nat) (l : (List TProduct)) (name : ByteArray) : Option (Int × Bool) :=
  (Option.bind ((iterX N (fun q => product_Find_cs1 N l name q) 0) : Option ((Int × Bool) ⊕ Unit)) (Sum.elim (fun q => some q) (fun _ => some (0, false))))
theorem product_Find_le (N : Nat) (l : (List TProduct)) (name : ByteArray) : OLe (product_Find_c N l name) (product_Find_g l name) := by
  unfold product_Find_c product_Find_g
  repeat' (first | exact ole_rfl | exact product_Find_cs1_le _ _ _ _ | refine ole_bif ?_ ?_ | refine ole_bind ?_ (fun _ => ?_) | refine ole_let (fun _ => ?_) | refine ole_map ?_ | refine ole_elim (fun _ => ?_) (fun _ => ?_) | refine ole_loop (fun _ => ?_))

/-- sawmill/product.isSize -/
noncomputable def product_isSize_g (n : Int) : Bool :=
  (bif (decide (1 ≤ n)) then (decide (n ≤ 600)) else false)
theorem product_isSize_w (n : Int) (r : Bool) (h : product_isSize_g n = r) : Holds Try.prog 89 [(I n)] [] (B r) [] := by
  unfold product_isSize_g at h
  refine holds_fn Try.func89 rfl Try.ntmps89 rfl rfl rfl ?_
  refine awp_seq ?_
  refine awp_go hmix ?_
  refine go_run' ttok 1 rfl ?_
  refine go_nil nd ?_
  refine then_norm ?_
  refine awp_seq ?_
  refine awp_go hmix ?_
  refine go_run' ttok 3 rfl ?_
  refine go_gcase rfl rfl rfl (fun g1 => ?_) (fun g1 => ?_)
  · rw [g1]
    replace h := of_bif_t h g1
    refine go_run' ttok 4 rfl ?_
    refine go_nil nd ?_
    refine then_norm ?_
    refine awp_ret ?_
    have e2 := h
    subst e2
    refine ret_ret ?_
    refine fin0 ttok rfl rfl ?_
    exact (wkP_refl _ rfl)
  · rw [g1]
    replace h := of_bif_f h g1
    refine go_run' ttok 4 rfl ?_
    refine go_nil nd ?_
    refine then_norm ?_
    refine awp_ret ?_
    have e3 := h
    subst e3
    refine ret_ret ?_
    refine fin0 ttok rfl rfl ?_
    exact (wkP_refl _ rfl)

/-- sawmill/product.grow -/
noncomputable def product_grow_g (vsize : Int) (allow : Int) : Int :=
  (W64 (Int.tdiv (W64 ((W64 (vsize * (W64 (1000 + allow)))) + 999)) 1000))
theorem product_grow_w (vsize : Int) (allow : Int) (r : Int) (h : product_grow_g vsize allow = r) : Holds Try.prog 90 [(I vsize), (I allow)] [] (I r) [] := by
  unfold product_grow_g at h
  refine holds_fn Try.func90 rfl Try.ntmps90 rfl rfl rfl ?_
  refine awp_seq ?_
  refine awp_go hmix ?_
  refine go_run' ttok 1 rfl ?_
  refine go_nil nd ?_
  refine then_norm ?_
  refine awp_seq ?_
  refine awp_go hmix ?_
  refine go_run' ttok 7 rfl ?_
  refine go_nil nd ?_
  refine then_norm ?_
  refine awp_ret ?_
  have e1 := h
  subst e1
  refine ret_ret ?_
  refine fin0 ttok rfl rfl ?_
  exact (wkP_refl _ rfl)

/-- sawmill/product.Green -/
noncomputable def product_Green_g (p : TProduct) : (Int × Int) :=
  (bif (!(product_isSize_g p.Thick)) then (0, 0) else (bif (!(product_isSize_g p.Width)) then (0, 0) else (bif (decide (p.Allow < 0)) then (0, 0) else (bif (decide (200 < p.Allow)) then (0, 0) else ((product_grow_g p.Thick p.Allow), (product_grow_g p.Width p.Allow))))))
theorem product_Green_w (p : TProduct) (r : (Int × Int)) (h : product_Green_g p = r) : Holds Try.prog 74 [(encTProduct p)] [] (.tup [(I r.1), (I r.2)]) [] := by
  unfold product_Green_g at h
  refine holds_fn Try.func74 rfl Try.ntmps74 rfl rfl rfl ?_
  refine awp_seq ?_
  refine awp_go hmix ?_
  refine go_run' ttok 3 rfl ?_
  refine go_nil nd ?_
  refine then_norm ?_
  refine awp_seq ?_
  refine awp_seq ?_
  refine awp_go hmix ?_
  refine go_run' ttok 2 rfl ?_
  refine go_call fn89 (product_isSize_w p.Thick _ rfl) rfl rfl rfl rfl rfl rfl rfl ?_
  refine go_run' ttok 2 rfl ?_
  refine go_gcase rfl rfl rfl (fun g1 => ?_) (fun g1 => ?_)
  · rw [g1]
    replace h := of_bif_t h g1
    refine go_run' ttok 15 rfl ?_
    refine go_nil nd ?_
    refine then_norm ?_
    refine awp_cond rfl (fun tt0 => ?_) (fun h => by cases h)
    clear tt0
    refine awp_seq ?_
    refine awp_go hmix ?_
    refine go_run' ttok 2 rfl ?_
    refine go_nil nd ?_
    refine then_norm ?_
    refine awp_ret ?_
    refine then_ret ?_
    have e2 := h
    subst e2
    refine ret_ret ?_
    refine fin0 ttok rfl rfl ?_
    exact wkP_refl _ rfl
  · rw [g1]
    replace h := of_bif_f h g1
    refine go_run' ttok 2 rfl ?_
    refine go_call fn89 (product_isSize_w p.Width _ rfl) rfl rfl rfl rfl rfl rfl rfl ?_
    refine go_run' ttok 3 rfl ?_
    refine go_gcase rfl rfl rfl (fun g3 => ?_) (fun g3 => ?_)
    · rw [g3]
      replace h := of_bif_t h g3
      refine go_run' ttok 9 rfl ?_
      refine go_nil nd ?_
      refine then_norm ?_
      refine awp_cond rfl (fun tt0 => ?_) (fun h => by cases h)
      clear tt0
      refine awp_seq ?_
      refine awp_go hmix ?_
      refine go_run' ttok 2 rfl ?_
      refine go_nil nd ?_
      refine then_norm ?_
      refine awp_ret ?_
      refine then_ret ?_
      have e4 := h
      subst e4
      refine ret_ret ?_
      refine fin0 ttok rfl rfl ?_
      exact wkP_refl _ rfl
    · rw [g3]
      replace h := of_bif_f h g3
      refine go_run' ttok 5 rfl ?_
      refine go_gcase rfl rfl rfl (fun g5 => ?_) (fun g5 => ?_)
      · rw [g5]
        replace h := of_bif_t h g5
        refine go_run' ttok 4 rfl ?_
        refine go_nil nd ?_
        refine then_norm ?_
        refine awp_cond rfl (fun tt0 => ?_) (fun h => by cases h)
        clear tt0
        refine awp_seq ?_
        refine awp_go hmix ?_
        refine go_run' ttok 2 rfl ?_
        refine go_nil nd ?_
        refine then_norm ?_
        refine awp_ret ?_
        refine then_ret ?_
        have e6 := h
        subst e6
        refine ret_ret ?_
        refine fin0 ttok rfl rfl ?_
        exact wkP_refl _ rfl
      · rw [g5]
        replace h := of_bif_f h g5
        refine go_run' ttok 4 rfl ?_
        refine go_nil nd ?_
        refine then_norm ?_
        refine awp_cond (b := (decide (200 < p.Allow))) rfl (fun c7 => ?_) (fun c7 => ?_)
        · replace h := of_bif_t h c7
          refine awp_seq ?_
          refine awp_go hmix ?_
          refine go_run' ttok 2 rfl ?_
          refine go_nil nd ?_
          refine then_norm ?_
          refine awp_ret ?_
          refine then_ret ?_
          have e8 := h
          subst e8
          refine ret_ret ?_
          refine fin0 ttok rfl rfl ?_
          exact wkP_refl _ rfl
        · replace h := of_bif_f h c7
          refine awp_skip ?_
          refine then_norm ?_
          refine awp_seq ?_
          refine awp_go hmix ?_
          refine go_run' ttok 4 rfl ?_
          refine go_call fn90 (product_grow_w p.Thick p.Allow _ rfl) rfl rfl rfl rfl rfl rfl rfl ?_
          refine go_run' ttok 4 rfl ?_
          refine go_call fn90 (product_grow_w p.Width p.Allow _ rfl) rfl rfl rfl rfl rfl rfl rfl ?_
          refine go_run' ttok 2 rfl ?_
          refine go_nil (fun _ => by kernel_rfl) ?_
          refine then_norm ?_
          refine awp_ret ?_
          have e9 := h
          subst e9
          refine ret_ret ?_
          refine fin0 ttok rfl rfl ?_
          exact wkP_refl _ rfl

noncomputable def product_checkNumbers_s1 (p : TProduct) (vv : Int) : Option (Int ⊕ (Int ⊕ Unit)) :=
  (bif (decide (vv < ((p.Lengths.length : Nat) : Int))) then (Option.bind (getI p.Lengths vv) (fun e => (bif (decide (e < 100)) then some (Sum.inr (Sum.inl 9)) else (bif (decide (20000 < e)) then some (Sum.inr (Sum.inl 9)) else (bif (decide (0 < vv)) then (Option.bind (getI p.Lengths (W64 (vv - 1))) (fun e1 => (bif (decide (e ≤ e1)) then some (Sum.inr (Sum.inl 11)) else some (Sum.inl (W64 (vv + 1)))))) else some (Sum.inl (W64 (vv + 1)))))))) else some (Sum.inr (Sum.inr ())))
noncomputable def product_checkNumbers_s2 (p : TProduct) (vv1 : Int) : Option (Int ⊕ (Int ⊕ Unit)) :=
  (bif (decide (vv1 < ((p.Prices.length : Nat) : Int))) then (Option.bind (getI p.Prices vv1) (fun e2 => (bif (decide (e2 < 0)) then some (Sum.inr (Sum.inl 9)) else (bif (decide (1000000 < e2)) then some (Sum.inr (Sum.inl 9)) else some (Sum.inl (W64 (vv1 + 1))))))) else some (Sum.inr (Sum.inr ())))
/-- sawmill/product.checkNumbers -/
noncomputable def product_checkNumbers_g (p : TProduct) : Option Int :=
  (bif (decide (p.Thick < 5)) then some 9 else (bif (decide (300 < p.Thick)) then some 9 else (bif (decide (p.Width < p.Thick)) then some 9 else (bif (decide (600 < p.Width)) then some 9 else (bif (decide (p.Allow < 0)) then some 9 else (bif (decide (200 < p.Allow)) then some 9 else (bif (decide (p.Wane < 0)) then some 9 else (bif (decide (1000 < p.Wane)) then some 9 else (letB (product_Green_g p) (fun gv => (bif (decide (600 < gv.2)) then some 9 else (bif (((p.Lengths.length : Nat) : Int) == 0) then some 3 else (bif (decide (8 < ((p.Lengths.length : Nat) : Int))) then some 4 else (bif (((p.Prices.length : Nat) : Int) != ((p.Lengths.length : Nat) : Int)) then some 19 else (Option.bind ((loopO (fun q => product_checkNumbers_s1 p q) 0) : Option (Int ⊕ Unit)) (Sum.elim (fun q => some q) (fun _ => (Option.bind ((loopO (fun q => product_checkNumbers_s2 p q) 0) : Option (Int ⊕ Unit)) (Sum.elim (fun q => some q) (fun _ => some 0))))))))))))))))))))
theorem product_checkNumbers_w (p : TProduct) (r : Int) (h : product_checkNumbers_g p = some r) : Holds Try.prog 88 [(encTProduct p)] [] (I r) [] := by
  unfold product_checkNumbers_g at h
  refine holds_fn Try.func88 rfl Try.ntmps88 rfl rfl rfl ?_
  refine awp_seq ?_
  refine awp_go hmix ?_
  refine go_run' ttok 2 rfl ?_
  refine go_nil nd ?_
  refine then_norm ?_
  refine awp_seq ?_
  refine awp_seq ?_
  refine awp_go hmix ?_
  refine go_run' ttok 4 rfl ?_
  refine go_gcase rfl rfl rfl (fun g1 => ?_) (fun g1 => ?_)
  · rw [g1]
    replace h := of_bif_t h g1
    refine go_run' ttok 16 rfl ?_
    refine go_nil nd ?_
    refine then_norm ?_
    refine awp_cond rfl (fun tt0 => ?_) (fun h => by cases h)
    clear tt0
    refine awp_seq ?_
    refine awp_go hmix ?_
    refine go_run' ttok 1 rfl ?_
    refine go_nil nd ?_
    refine then_norm ?_
    refine awp_ret ?_
    refine then_ret ?_
    have e2 := of_some h
    subst e2
    refine ret_ret ?_
    refine fin0 ttok rfl rfl ?_
    exact (wkP_refl _ rfl)
  · rw [g1]
    replace h := of_bif_f h g1
    refine go_run' ttok 5 rfl ?_
    refine go_gcase rfl rfl rfl (fun g3 => ?_) (fun g3 => ?_)
    · rw [g3]
      replace h := of_bif_t h g3
      refine go_run' ttok 11 rfl ?_
      refine go_nil nd ?_
      refine then_norm ?_
      refine awp_cond rfl (fun tt0 => ?_) (fun h => by cases h)
      clear tt0
      refine awp_seq ?_
      refine awp_go hmix ?_
      refine go_run' ttok 1 rfl ?_
      refine go_nil nd ?_
      refine then_norm ?_
      refine awp_ret ?_
      refine then_ret ?_
      have e4 := of_some h
      subst e4
      refine ret_ret ?_
      refine fin0 ttok rfl rfl ?_
      exact (wkP_refl _ rfl)
    · rw [g3]
      replace h := of_bif_f h g3
      refine go_run' ttok 7 rfl ?_
      refine go_gcase rfl rfl rfl (fun g5 => ?_) (fun g5 => ?_)
      · rw [g5]
        replace h := of_bif_t h g5
        refine go_run' ttok 4 rfl ?_
        refine go_nil nd ?_
        refine then_norm ?_
        refine awp_cond rfl (fun tt0 => ?_) (fun h => by cases h)
        clear tt0
        refine awp_seq ?_
        refine awp_go hmix ?_
        refine go_run' ttok 1 rfl ?_
        refine go_nil nd ?_
        refine then_norm ?_
        refine awp_ret ?_
        refine then_ret ?_
        have e6 := of_some h
        subst e6
        refine ret_ret ?_
        refine fin0 ttok rfl rfl ?_
        exact (wkP_refl _ rfl)
      · rw [g5]
        replace h := of_bif_f h g5
        refine go_run' ttok 4 rfl ?_
        refine go_nil nd ?_
        refine then_norm ?_
        refine awp_cond (b := (decide (600 < p.Width))) rfl (fun c7 => ?_) (fun c7 => ?_)
        · replace h := of_bif_t h c7
          refine awp_seq ?_
          refine awp_go hmix ?_
          refine go_run' ttok 1 rfl ?_
          refine go_nil nd ?_
          refine then_norm ?_
          refine awp_ret ?_
          refine then_ret ?_
          have e8 := of_some h
          subst e8
          refine ret_ret ?_
          refine fin0 ttok rfl rfl ?_
          exact (wkP_refl _ rfl)
        · replace h := of_bif_f h c7
          refine awp_skip ?_
          refine then_norm ?_
          refine awp_seq ?_
          refine awp_seq ?_
          refine awp_go hmix ?_
          refine go_run' ttok 4 rfl ?_
          refine go_gcase rfl rfl rfl (fun g9 => ?_) (fun g9 => ?_)
          · rw [g9]
            replace h := of_bif_t h g9
            refine go_run' ttok 14 rfl ?_
            refine go_nil nd ?_
            refine then_norm ?_
            refine awp_cond rfl (fun tt0 => ?_) (fun h => by cases h)
            clear tt0
            refine awp_seq ?_
            refine awp_go hmix ?_
            refine go_run' ttok 1 rfl ?_
            refine go_nil nd ?_
            refine then_norm ?_
            refine awp_ret ?_
            refine then_ret ?_
            have e10 := of_some h
            subst e10
            refine ret_ret ?_
            refine fin0 ttok rfl rfl ?_
            exact (wkP_refl _ rfl)
          · rw [g9]
            replace h := of_bif_f h g9
            refine go_run' ttok 5 rfl ?_
            refine go_gcase rfl rfl rfl (fun g11 => ?_) (fun g11 => ?_)
            · rw [g11]
              replace h := of_bif_t h g11
              refine go_run' ttok 9 rfl ?_
              refine go_nil nd ?_
              refine then_norm ?_
              refine awp_cond rfl (fun tt0 => ?_) (fun h => by cases h)
              clear tt0
              refine awp_seq ?_
              refine awp_go hmix ?_
              refine go_run' ttok 1 rfl ?_
              refine go_nil nd ?_
              refine then_norm ?_
              refine awp_ret ?_
              refine then_ret ?_
              have e12 := of_some h
              subst e12
              refine ret_ret ?_
              refine fin0 ttok rfl rfl ?_
              exact (wkP_refl _ rfl)
            · rw [g11]
              replace h := of_bif_f h g11
              refine go_run' ttok 5 rfl ?_
              refine go_gcase rfl rfl rfl (fun g13 => ?_) (fun g13 => ?_)
              · rw [g13]
                replace h := of_bif_t h g13
                refine go_run' ttok 4 rfl ?_
                refine go_nil nd ?_
                refine then_norm ?_
                refine awp_cond rfl (fun tt0 => ?_) (fun h => by cases h)
                clear tt0
                refine awp_seq ?_
                refine awp_go hmix ?_
                refine go_run' ttok 1 rfl ?_
                refine go_nil nd ?_
                refine then_norm ?_
                refine awp_ret ?_
                refine then_ret ?_
                have e14 := of_some h
                subst e14
                refine ret_ret ?_
                refine fin0 ttok rfl rfl ?_
                exact (wkP_refl _ rfl)
              · rw [g13]
                replace h := of_bif_f h g13
                refine go_run' ttok 4 rfl ?_
                refine go_nil nd ?_
                refine then_norm ?_
                refine awp_cond (b := (decide (1000 < p.Wane))) rfl (fun c15 => ?_) (fun c15 => ?_)
                · replace h := of_bif_t h c15
                  refine awp_seq ?_
                  refine awp_go hmix ?_
                  refine go_run' ttok 1 rfl ?_
                  refine go_nil nd ?_
                  refine then_norm ?_
                  refine awp_ret ?_
                  refine then_ret ?_
                  have e16 := of_some h
                  subst e16
                  refine ret_ret ?_
                  refine fin0 ttok rfl rfl ?_
                  exact (wkP_refl _ rfl)
                · replace h := of_bif_f h c15
                  refine awp_skip ?_
                  refine then_norm ?_
                  refine awp_seq ?_
                  refine awp_seq ?_
                  refine awp_go hmix ?_
                  refine go_run' ttok 1 rfl ?_
                  obtain ⟨gv, hv17, h⟩ := of_let h
                  refine go_call fn74 (product_Green_w p gv hv17) rfl rfl rfl rfl rfl rfl rfl ?_
                  refine go_run' ttok 5 rfl ?_
                  refine go_nil nd ?_
                  refine then_norm ?_
                  refine awp_seq ?_
                  refine awp_go hmix ?_
                  refine go_run' ttok 2 rfl ?_
                  refine go_nil nd ?_
                  refine then_norm ?_
                  refine awp_cond (b := (decide (600 < gv.2))) rfl (fun c18 => ?_) (fun c18 => ?_)
                  · replace h := of_bif_t h c18
                    refine awp_seq ?_
                    refine awp_go hmix ?_
                    refine go_run' ttok 1 rfl ?_
                    refine go_nil nd ?_
                    refine then_norm ?_
                    refine awp_ret ?_
                    refine then_ret ?_
                    have e19 := of_some h
                    subst e19
                    refine ret_ret ?_
                    refine fin0 ttok rfl rfl ?_
                    exact (wkP_refl _ rfl)
                  · replace h := of_bif_f h c18
                    refine awp_skip ?_
                    refine then_norm ?_
                    refine awp_seq ?_
                    refine awp_seq ?_
                    refine awp_go hmix ?_
                    refine go_run' ttok 2 rfl ?_
                    refine go_lenT I p.Lengths ttok rfl rfl rfl rfl rfl rfl ?_
                    refine go_run' ttok 1 rfl ?_
                    refine go_nil nd ?_
                    refine then_norm ?_
                    refine awp_cond (b := (((p.Lengths.length : Nat) : Int) == 0)) rfl (fun c20 => ?_) (fun c20 => ?_)
                    · replace h := of_bif_t h c20
                      refine awp_seq ?_
                      refine awp_go hmix ?_
                      refine go_run' ttok 1 rfl ?_
                      refine go_nil nd ?_
                      refine then_norm ?_
                      refine awp_ret ?_
                      refine then_ret ?_
                      have e21 := of_some h
                      subst e21
                      refine ret_ret ?_
                      refine fin0 ttok rfl rfl ?_
                      exact (wkP_refl _ rfl)
                    · replace h := of_bif_f h c20
                      refine awp_skip ?_
                      refine then_norm ?_
                      refine awp_seq ?_
                      refine awp_seq ?_
                      refine awp_go hmix ?_
                      refine go_run' ttok 2 rfl ?_
                      refine go_lenT I p.Lengths ttok rfl rfl rfl rfl rfl rfl ?_
                      refine go_run' ttok 1 rfl ?_
                      refine go_nil nd ?_
                      refine then_norm ?_
                      refine awp_cond (b := (decide (8 < ((p.Lengths.length : Nat) : Int)))) rfl (fun c22 => ?_) (fun c22 => ?_)
                      · replace h := of_bif_t h c22
                        refine awp_seq ?_
                        refine awp_go hmix ?_
                        refine go_run' ttok 1 rfl ?_
                        refine go_nil nd ?_
                        refine then_norm ?_
                        refine awp_ret ?_
                        refine then_ret ?_
                        have e23 := of_some h
                        subst e23
                        refine ret_ret ?_
                        refine fin0 ttok rfl rfl ?_
                        exact (wkP_refl _ rfl)
                      · replace h := of_bif_f h c22
                        refine awp_skip ?_
                        refine then_norm ?_
                        refine awp_seq ?_
                        refine awp_seq ?_
                        refine awp_go hmix ?_
                        refine go_run' ttok 2 rfl ?_
                        refine go_lenT I p.Prices ttok rfl rfl rfl rfl rfl rfl ?_
                        refine go_run' ttok 2 rfl ?_
                        refine go_lenT I p.Lengths ttok rfl rfl rfl rfl rfl rfl ?_
                        refine go_run' ttok 1 rfl ?_
                        refine go_nil nd ?_
                        refine then_norm ?_
                        refine awp_cond (b := (((p.Prices.length : Nat) : Int) != ((p.Lengths.length : Nat) : Int))) rfl (fun c24 => ?_) (fun c24 => ?_)
                        · replace h := of_bif_t h c24
                          refine awp_seq ?_
                          refine awp_go hmix ?_
                          refine go_run' ttok 1 rfl ?_
                          refine go_nil nd ?_
                          refine then_norm ?_
                          refine awp_ret ?_
                          refine then_ret ?_
                          have e25 := of_some h
                          subst e25
                          refine ret_ret ?_
                          refine fin0 ttok rfl rfl ?_
                          exact (wkP_refl _ rfl)
                        · replace h := of_bif_f h c24
                          refine awp_skip ?_
                          refine then_norm ?_
                          obtain ⟨y, hx26, h⟩ := of_obind h
                          refine awp_seqJ (X := Unit) [1] [1] (fun _ => []) (fun _ => []) (fun w => Sum.inr w = y) rfl rfl ?_ ?_
                          · skip
                            refine awp_seq ?_
                            refine awp_go hmix ?_
                            refine go_run' ttok 2 rfl ?_
                            refine go_lenT I p.Lengths ttok rfl rfl rfl rfl rfl rfl ?_
                            refine go_run' ttok 1 rfl ?_
                            refine go_nil nd ?_
                            refine then_norm ?_
                            refine awp_block ?_
                            refine awp_loopD (X := Int) (Y := (Int ⊕ Unit)) [1, 70, 71] [1] (fun q => [(72, (I q))]) (fun q => []) (fun q => product_checkNumbers_s1 p q) 0 [(1, some 1)] hx26 ⟨rfl, rfl, rfl, rfl, rfl, ⟨wkP_id _ rfl, trivial⟩, trivial⟩ (fun vv vR vz hz28 hk29 => ?_)
                            change product_checkNumbers_s1 p vv = _ at hz28
                            unfold product_checkNumbers_s1 at hz28
                            refine awp_seq ?_
                            refine awp_go hmix ?_
                            refine go_run' ttok 1 rfl ?_
                            refine go_nil nd ?_
                            refine then_norm ?_
                            refine awp_seq ?_
                            refine awp_cond (b := (decide (vv < ((p.Lengths.length : Nat) : Int)))) rfl (fun c30 => ?_) (fun c30 => ?_)
                            · replace hz28 := of_bif_t hz28 c30
                              refine awp_skip ?_
                              refine then_norm ?_
                              refine awp_seq ?_
                              refine awp_block ?_
                              refine awp_seq ?_
                              refine awp_go hmix ?_
                              refine go_run' ttok 1 rfl ?_
                              obtain ⟨e, hv31, hz28⟩ := of_obind hz28
                              refine go_indexT I p.Lengths vv e hv31 ttok rfl rfl rfl rfl rfl rfl rfl rfl rfl ?_
                              refine go_run' ttok 3 rfl ?_
                              refine go_nil nd ?_
                              refine then_norm ?_
                              refine awp_seq ?_
                              refine awp_seq ?_
                              refine awp_go hmix ?_
                              refine go_run' ttok 3 rfl ?_
                              refine go_gcase rfl rfl rfl (fun g32 => ?_) (fun g32 => ?_)
                              · rw [g32]
                                replace hz28 := of_bif_t hz28 g32
                                refine go_run' ttok 3 rfl ?_
                                refine go_nil nd ?_
                                refine then_norm ?_
                                refine awp_cond rfl (fun tt0 => ?_) (fun h => by cases h)
                                clear tt0
                                refine awp_seq ?_
                                refine awp_go hmix ?_
                                refine go_run' ttok 1 rfl ?_
                                refine go_nil nd ?_
                                refine then_norm ?_
                                refine awp_ret ?_
                                refine then_ret ?_
                                refine block_ret ?_
                                refine then_ret ?_
                                obtain ⟨t, hn33, hq⟩ := of_mapr' hz28
                                subst hq
                                have hq : t = _ := hk29
                                subst hq
                                refine then_ret ?_
                                refine block_ret ?_
                                obtain ⟨t1, hn34, hq⟩ := of_mapl' hn33
                                subst hq
                                have hq := of_inl h
                                replace hq := of_some hq
                                subst hq
                                refine then_ret ?_
                                have e35 := of_some hn34
                                subst e35
                                refine ret_ret ?_
                                refine fin0 ttok rfl rfl ?_
                                exact (wkP_refl _ rfl)
                              · rw [g32]
                                replace hz28 := of_bif_f hz28 g32
                                refine go_run' ttok 3 rfl ?_
                                refine go_nil nd ?_
                                refine then_norm ?_
                                refine awp_cond (b := (decide (20000 < e))) rfl (fun c36 => ?_) (fun c36 => ?_)
                                · replace hz28 := of_bif_t hz28 c36
                                  refine awp_seq ?_
                                  refine awp_go hmix ?_
                                  refine go_run' ttok 1 rfl ?_
                                  refine go_nil nd ?_
                                  refine then_norm ?_
                                  refine awp_ret ?_
                                  refine then_ret ?_
                                  refine block_ret ?_
                                  refine then_ret ?_
                                  obtain ⟨t2, hn37, hq⟩ := of_mapr' hz28
                                  subst hq
                                  have hq : t2 = _ := hk29
                                  subst hq
                                  refine then_ret ?_
                                  refine block_ret ?_
                                  obtain ⟨t3, hn38, hq⟩ := of_mapl' hn37
                                  subst hq
                                  have hq := of_inl h
                                  replace hq := of_some hq
                                  subst hq
                                  refine then_ret ?_
                                  have e39 := of_some hn38
                                  subst e39
                                  refine ret_ret ?_
                                  refine fin0 ttok rfl rfl ?_
                                  exact (wkP_refl _ rfl)
                                · replace hz28 := of_bif_f hz28 c36
                                  refine awp_skip ?_
                                  refine then_norm ?_
                                  refine awp_seq ?_
                                  refine awp_go hmix ?_
                                  refine go_run' ttok 3 rfl ?_
                                  refine go_gcase rfl rfl rfl (fun g40 => ?_) (fun g40 => ?_)
                                  · rw [g40]
                                    replace hz28 := of_bif_t hz28 g40
                                    refine go_run' ttok 5 rfl ?_
                                    obtain ⟨e1, hv41, hz28⟩ := of_obind hz28
                                    refine go_indexT I p.Lengths (W64 (vv - 1)) e1 hv41 ttok rfl rfl rfl rfl rfl rfl rfl rfl rfl ?_
                                    refine go_run' ttok 3 rfl ?_
                                    refine go_nil nd ?_
                                    refine then_norm ?_
                                    refine awp_cond (b := (decide (e ≤ e1))) rfl (fun c42 => ?_) (fun c42 => ?_)
                                    · replace hz28 := of_bif_t hz28 c42
                                      refine awp_seq ?_
                                      refine awp_go hmix ?_
                                      refine go_run' ttok 1 rfl ?_
                                      refine go_nil nd ?_
                                      refine then_norm ?_
                                      refine awp_ret ?_
                                      refine block_ret ?_
                                      refine then_ret ?_
                                      obtain ⟨t4, hn43, hq⟩ := of_mapr' hz28
                                      subst hq
                                      have hq : t4 = _ := hk29
                                      subst hq
                                      refine then_ret ?_
                                      refine block_ret ?_
                                      obtain ⟨t5, hn44, hq⟩ := of_mapl' hn43
                                      subst hq
                                      have hq := of_inl h
                                      replace hq := of_some hq
                                      subst hq
                                      refine then_ret ?_
                                      have e45 := of_some hn44
                                      subst e45
                                      refine ret_ret ?_
                                      refine fin0 ttok rfl rfl ?_
                                      exact (wkP_refl _ rfl)
                                    · replace hz28 := of_bif_f hz28 c42
                                      refine awp_skip ?_
                                      refine block_norm ?_
                                      refine then_norm ?_
                                      refine awp_go hmix ?_
                                      refine go_run' ttok 2 rfl ?_
                                      refine go_nil nd ?_
                                      have e46 := of_some hz28
                                      subst e46
                                      refine then_norm ⟨rfl, (W64 (vv + 1)), [(1, some 1)], ⟨rfl, rfl, rfl, rfl, rfl, ⟨wkP_id _ rfl, trivial⟩, trivial⟩, hk29⟩
                                  · rw [g40]
                                    replace hz28 := of_bif_f hz28 g40
                                    refine go_run' ttok 9 rfl ?_
                                    refine go_nil nd ?_
                                    refine then_norm ?_
                                    refine awp_cond rfl (fun h => by cases h) (fun tt0 => ?_)
                                    clear tt0
                                    refine awp_skip ?_
                                    refine block_norm ?_
                                    refine then_norm ?_
                                    refine awp_go hmix ?_
                                    refine go_run' ttok 2 rfl ?_
                                    refine go_nil nd ?_
                                    have e47 := of_some hz28
                                    subst e47
                                    refine then_norm ⟨rfl, (W64 (vv + 1)), [(1, some 1)], ⟨rfl, rfl, rfl, rfl, rfl, ⟨wkP_id _ rfl, trivial⟩, trivial⟩, hk29⟩
                            · replace hz28 := of_bif_f hz28 c30
                              refine awp_exit ?_
                              refine then_exit ?_
                              obtain ⟨t6, hn48, hq⟩ := of_mapr' hz28
                              subst hq
                              have hq : t6 = _ := hk29
                              subst hq
                              refine then_exit ?_
                              refine block_here ?_
                              have e49 := of_some hn48
                              refine then_norm ⟨rfl, (), [(1, some 1)], ⟨rfl, rfl, rfl, rfl, rfl, trivial, trivial⟩, e49⟩
                          · intro w hw27
                            subst hw27
                            replace h := of_inr h
                            obtain ⟨y1, hx50, h⟩ := of_obind h
                            refine awp_seqJ (X := Unit) [] [] (fun _ => []) (fun _ => []) (fun w1 => Sum.inr w1 = y1) rfl rfl ?_ ?_
                            · skip
                              refine awp_seq ?_
                              refine awp_go hmix ?_
                              refine go_run' ttok 2 rfl ?_
                              refine go_lenT I p.Prices ttok rfl rfl rfl rfl rfl rfl ?_
                              refine go_run' ttok 1 rfl ?_
                              refine go_nil nd ?_
                              refine then_norm ?_
                              refine awp_block ?_
                              refine awp_loopD (X := Int) (Y := (Int ⊕ Unit)) [97, 98] [] (fun q => [(99, (I q))]) (fun q => []) (fun q => product_checkNumbers_s2 p q) 0 [] hx50 ⟨rfl, rfl, rfl, rfl, rfl, ⟨wkP_id _ rfl, trivial⟩, trivial⟩ (fun vv1 vR1 vz1 hz52 hk53 => ?_)
                              change product_checkNumbers_s2 p vv1 = _ at hz52
                              unfold product_checkNumbers_s2 at hz52
                              refine awp_seq ?_
                              refine awp_go hmix ?_
                              refine go_run' ttok 1 rfl ?_
                              refine go_nil nd ?_
                              refine then_norm ?_
                              refine awp_seq ?_
                              refine awp_cond (b := (decide (vv1 < ((p.Prices.length : Nat) : Int)))) rfl (fun c54 => ?_) (fun c54 => ?_)
                              · replace hz52 := of_bif_t hz52 c54
                                refine awp_skip ?_
                                refine then_norm ?_
                                refine awp_seq ?_
                                refine awp_block ?_
                                refine awp_seq ?_
                                refine awp_go hmix ?_
                                obtain ⟨e2, hv55, hz52⟩ := of_obind hz52
                                refine go_indexT I p.Prices vv1 e2 hv55 ttok rfl rfl rfl rfl rfl rfl rfl rfl rfl ?_
                                refine go_run' ttok 2 rfl ?_
                                refine go_nil nd ?_
                                refine then_norm ?_
                                refine awp_seq ?_
                                refine awp_go hmix ?_
                                refine go_run' ttok 3 rfl ?_
                                refine go_gcase rfl rfl rfl (fun g56 => ?_) (fun g56 => ?_)
                                · rw [g56]
                                  replace hz52 := of_bif_t hz52 g56
                                  refine go_run' ttok 3 rfl ?_
                                  refine go_nil nd ?_
                                  refine then_norm ?_
                                  refine awp_cond rfl (fun tt0 => ?_) (fun h => by cases h)
                                  clear tt0
                                  refine awp_seq ?_
                                  refine awp_go hmix ?_
                                  refine go_run' ttok 1 rfl ?_
                                  refine go_nil nd ?_
                                  refine then_norm ?_
                                  refine awp_ret ?_
                                  refine block_ret ?_
                                  refine then_ret ?_
                                  obtain ⟨t7, hn57, hq⟩ := of_mapr' hz52
                                  subst hq
                                  have hq : t7 = _ := hk53
                                  subst hq
                                  refine then_ret ?_
                                  refine block_ret ?_
                                  obtain ⟨t8, hn58, hq⟩ := of_mapl' hn57
                                  subst hq
                                  have hq := of_inl h
                                  replace hq := of_some hq
                                  subst hq
                                  refine then_ret ?_
                                  have e59 := of_some hn58
                                  subst e59
                                  refine ret_ret ?_
                                  refine fin0 ttok rfl rfl ?_
                                  exact (wkP_refl _ rfl)
                                · rw [g56]
                                  replace hz52 := of_bif_f hz52 g56
                                  refine go_run' ttok 3 rfl ?_
                                  refine go_nil nd ?_
                                  refine then_norm ?_
                                  refine awp_cond (b := (decide (1000000 < e2))) rfl (fun c60 => ?_) (fun c60 => ?_)
                                  · replace hz52 := of_bif_t hz52 c60
                                    refine awp_seq ?_
                                    refine awp_go hmix ?_
                                    refine go_run' ttok 1 rfl ?_
                                    refine go_nil nd ?_
                                    refine then_norm ?_
                                    refine awp_ret ?_
                                    refine block_ret ?_
                                    refine then_ret ?_
                                    obtain ⟨t9, hn61, hq⟩ := of_mapr' hz52
                                    subst hq
                                    have hq : t9 = _ := hk53
                                    subst hq
                                    refine then_ret ?_
                                    refine block_ret ?_
                                    obtain ⟨t10, hn62, hq⟩ := of_mapl' hn61
                                    subst hq
                                    have hq := of_inl h
                                    replace hq := of_some hq
                                    subst hq
                                    refine then_ret ?_
                                    have e63 := of_some hn62
                                    subst e63
                                    refine ret_ret ?_
                                    refine fin0 ttok rfl rfl ?_
                                    exact (wkP_refl _ rfl)
                                  · replace hz52 := of_bif_f hz52 c60
                                    refine awp_skip ?_
                                    refine block_norm ?_
                                    refine then_norm ?_
                                    refine awp_go hmix ?_
                                    refine go_run' ttok 2 rfl ?_
                                    refine go_nil nd ?_
                                    have e64 := of_some hz52
                                    subst e64
                                    refine then_norm ⟨rfl, (W64 (vv1 + 1)), [], ⟨rfl, rfl, rfl, rfl, rfl, ⟨wkP_id _ rfl, trivial⟩, trivial⟩, hk53⟩
                              · replace hz52 := of_bif_f hz52 c54
                                refine awp_exit ?_
                                refine then_exit ?_
                                obtain ⟨t11, hn65, hq⟩ := of_mapr' hz52
                                subst hq
                                have hq : t11 = _ := hk53
                                subst hq
                                refine then_exit ?_
                                refine block_here ?_
                                have e66 := of_some hn65
                                refine then_norm ⟨rfl, (), [], ⟨rfl, rfl, rfl, rfl, rfl, trivial, trivial⟩, e66⟩
                            · intro w1 hw51
                              subst hw51
                              replace h := of_inr h
                              refine awp_seq ?_
                              refine awp_go hmix ?_
                              refine go_run' ttok 1 rfl ?_
                              refine go_nil nd ?_
                              refine then_norm ?_
                              refine awp_ret ?_
                              have e67 := of_some h
                              subst e67
                              refine ret_ret ?_
                              refine fin0 ttok rfl rfl ?_
                              exact (wkP_refl _ rfl)
noncomputable def product_checkNumbers_cs1 (N : Nat) (p : TProduct) (vv : Int) : Option (Int ⊕ (Int ⊕ Unit)) :=
  (bif (decide (vv < ((p.Lengths.length : Nat) : Int))) then (Option.bind (getI p.Lengths vv) (fun e => (bif (decide (e < 100)) then some (Sum.inr (Sum.inl 9)) else (bif (decide (20000 < e)) then some (Sum.inr (Sum.inl 9)) else (bif (decide (0 < vv)) then (Option.bind (getI p.Lengths (W64 (vv - 1))) (fun e1 => (bif (decide (e ≤ e1)) then some (Sum.inr (Sum.inl 11)) else some (Sum.inl (W64 (vv + 1)))))) else some (Sum.inl (W64 (vv + 1)))))))) else some (Sum.inr (Sum.inr ())))
theorem product_checkNumbers_cs1_le (N : Nat) (p : TProduct) (vv : Int) : OLe (product_checkNumbers_cs1 N p vv) (product_checkNumbers_s1 p vv) := by
  unfold product_checkNumbers_cs1 product_checkNumbers_s1
  repeat' (first | exact ole_rfl | refine ole_bif ?_ ?_ | refine ole_bind ?_ (fun _ => ?_) | refine ole_let (fun _ => ?_) | refine ole_map ?_ | refine ole_elim (fun _ => ?_) (fun _ => ?_) | refine ole_loop (fun _ => ?_))
noncomputable def product_checkNumbers_cs2 (N : Nat) (p : TProduct) (vv1 : Int) : Option (Int ⊕ (Int ⊕ Unit)) :=
  (bif (decide (vv1 < ((p.Prices.length : Nat) : Int))) then (Option.bind (getI p.Prices vv1) (fun e2 => (bif (decide (e2 < 0)) then some (Sum.inr (Sum.inl 9)) else (bif (decide (1000000 < e2)) then some (Sum.inr (Sum.inl 9)) else some (Sum.inl (W64 (vv1 + 1))))))) else some (Sum.inr (Sum.inr ())))
theorem product_checkNumbers_cs2_le (N : Nat) (p : TProduct) (vv1 : Int) : OLe (product_checkNumbers_cs2 N p vv1) (product_checkNumbers_s2 p vv1) := by
  unfold product_checkNumbers_cs2 product_checkNumbers_s2
  repeat' (first | exact ole_rfl | exact product_checkNumbers_cs1_le _ _ _ | refine ole_bif ?_ ?_ | refine ole_bind ?_ (fun _ => ?_) | refine ole_let (fun _ => ?_) | refine ole_map ?_ | refine ole_elim (fun _ => ?_) (fun _ => ?_) | refine ole_loop (fun _ => ?_))
noncomputable def product_checkNumbers_c (N : Nat) (p : TProduct) : Option Int :=
  (bif (decide (p.Thick < 5)) then some 9 else (bif (decide (300 < p.Thick)) then some 9 else (bif (decide (p.Width < p.Thick)) then some 9 else (bif (decide (600 < p.Width)) then some 9 else (bif (decide (p.Allow < 0)) then some 9 else (bif (decide (200 < p.Allow)) then some 9 else (bif (decide (p.Wane < 0)) then some 9 else (bif (decide (1000 < p.Wane)) then some 9 else (letB (product_Green_g p) (fun gv => (bif (decide (600 < gv.2)) then some 9 else (bif (((p.Lengths.length : Nat) : Int) == 0) then some 3 else (bif (decide (8 < ((p.Lengths.length : Nat) : Int))) then some 4 else (bif (((p.Prices.length : Nat) : Int) != ((p.Lengths.length : Nat) : Int)) then some 19 else (Option.bind ((iterX N (fun q => product_checkNumbers_cs1 N p q) 0) : Option (Int ⊕ Unit)) (Sum.elim (fun q => some q) (fun _ => (Option.bind ((iterX N (fun q => product_checkNumbers_cs2 N p q) 0) : Option (Int ⊕ Unit)) (Sum.elim (fun q => some q) (fun _ => some 0))))))))))))))))))))
theorem product_checkNumbers_le (N : Nat) (p : TProduct) : OLe (product_checkNumbers_c N p) (product_checkNumbers_g p) := by
  unfold product_checkNumbers_c product_checkNumbers_g
  repeat' (first | exact ole_rfl | exact product_checkNumbers_cs1_le _ _ _ | exact product_checkNumbers_cs2_le _ _ _ | refine ole_bif ?_ ?_ | refine ole_bind ?_ (fun _ => ?_) | refine ole_let (fun _ => ?_) | refine ole_map ?_ | refine ole_elim (fun _ => ?_) (fun _ => ?_) | refine ole_loop (fun _ => ?_))

noncomputable def product_Check_s1 (l : (List TProduct)) (vv : Int) : Option (Int ⊕ (Int ⊕ Unit)) :=
  (bif (decide (vv < ((l.length : Nat) : Int))) then (Option.bind (getI l vv) (fun e => (Option.bind (ident_IsName_g e.Name) (fun iv => (bif (!iv) then some (Sum.inr (Sum.inl 6)) else (Option.bind (subO l 0 vv) (fun l1 => (Option.bind (product_Find_g l1 e.Name) (fun fv => (bif fv.2 then some (Sum.inr (Sum.inl 7)) else (Option.bind (product_checkNumbers_g e) (fun cv => (bif (cv != 0) then some (Sum.inr (Sum.inl cv)) else some (Sum.inl (W64 (vv + 1)))))))))))))))) else some (Sum.inr (Sum.inr ())))
/-- sawmill/product.Check -/
noncomputable def product_Check_g (l : (List TProduct)) : Option Int :=
  (bif (decide (16 < ((l.length : Nat) : Int))) then some 4 else (Option.bind ((loopO (fun q => product_Check_s1 l q) 0) : Option (Int ⊕ Unit)) (Sum.elim (fun q => some q) (fun _ => some 0))))
theorem product_Check_w (l : (List TProduct)) (r : Int) (h : product_Check_g l = some r) : Holds Try.prog 73 [((encL encTProduct) l)] [] (I r) [] := by
  unfold product_Check_g at h
  refine holds_fn Try.func73 rfl Try.ntmps73 rfl rfl rfl ?_
  refine awp_seq ?_
  refine awp_go hmix ?_
  refine go_run' ttok 1 rfl ?_
  refine go_nil nd ?_
  refine then_norm ?_
  refine awp_seq ?_
  refine awp_seq ?_
  refine awp_go hmix ?_
  refine go_run' ttok 1 rfl ?_
  refine go_lenT encTProduct l ttok rfl rfl rfl rfl rfl rfl ?_
  refine go_run' ttok 1 rfl ?_
  refine go_nil nd ?_
  refine then_norm ?_
  refine awp_cond (b := (decide (16 < ((l.length : Nat) : Int)))) rfl (fun c1 => ?_) (fun c1 => ?_)
  · replace h := of_bif_t h c1
    refine awp_seq ?_
    refine awp_go hmix ?_
    refine go_run' ttok 1 rfl ?_
    refine go_nil nd ?_
    refine then_norm ?_
    refine awp_ret ?_
    refine then_ret ?_
    have e2 := of_some h
    subst e2
    refine ret_ret ?_
    refine fin0 ttok rfl rfl ?_
    exact (wkP_refl _ rfl)
  · replace h := of_bif_f h c1
    refine awp_skip ?_
    refine then_norm ?_
    obtain ⟨y, hx3, h⟩ := of_obind h
    refine awp_seqJ (X := Unit) [] [] (fun _ => []) (fun _ => []) (fun w => Sum.inr w = y) rfl rfl ?_ ?_
    · skip
      refine awp_seq ?_
      refine awp_go hmix ?_
      refine go_run' ttok 1 rfl ?_
      refine go_lenT encTProduct l ttok rfl rfl rfl rfl rfl rfl ?_
      refine go_run' ttok 1 rfl ?_
      refine go_nil nd ?_
      refine then_norm ?_
      refine awp_block ?_
      refine awp_loopD (X := Int) (Y := (Int ⊕ Unit)) [0, 11, 12] [] (fun q => [(13, (I q))]) (fun q => []) (fun q => product_Check_s1 l q) 0 [] hx3 ⟨rfl, rfl, rfl, rfl, rfl, ⟨wkP_id _ rfl, trivial⟩, trivial⟩ (fun vv vR vz hz5 hk6 => ?_)
      change product_Check_s1 l vv = _ at hz5
      unfold product_Check_s1 at hz5
      refine awp_seq ?_
      refine awp_go hmix ?_
      refine go_run' ttok 1 rfl ?_
      refine go_nil nd ?_
      refine then_norm ?_
      refine awp_seq ?_
      refine awp_cond (b := (decide (vv < ((l.length : Nat) : Int)))) rfl (fun c7 => ?_) (fun c7 => ?_)
      · replace hz5 := of_bif_t hz5 c7
        refine awp_skip ?_
        refine then_norm ?_
        refine awp_seq ?_
        refine awp_block ?_
        refine awp_seq ?_
        refine awp_go hmix ?_
        refine go_run' ttok 1 rfl ?_
        obtain ⟨e, hv8, hz5⟩ := of_obind hz5
        refine go_indexT encTProduct l vv e hv8 ttok rfl rfl rfl rfl rfl rfl rfl rfl rfl ?_
        refine go_run' ttok 4 rfl ?_
        refine go_nil nd ?_
        refine then_norm ?_
        refine awp_seq ?_
        refine awp_seq ?_
        refine awp_go hmix ?_
        refine go_run' ttok 2 rfl ?_
        obtain ⟨iv, hv9, hz5⟩ := of_obind hz5
        refine go_call fn86 (ident_IsName_w e.Name iv hv9) rfl rfl rfl rfl rfl rfl rfl ?_
        refine go_run' ttok 1 rfl ?_
        refine go_nil nd ?_
        refine then_norm ?_
        refine awp_cond (b := (!iv)) rfl (fun c10 => ?_) (fun c10 => ?_)
        · replace hz5 := of_bif_t hz5 c10
          refine awp_seq ?_
          refine awp_go hmix ?_
          refine go_run' ttok 1 rfl ?_
          refine go_nil nd ?_
          refine then_norm ?_
          refine awp_ret ?_
          refine then_ret ?_
          refine block_ret ?_
          refine then_ret ?_
          obtain ⟨t, hn11, hq⟩ := of_mapr' hz5
          subst hq
          have hq : t = _ := hk6
          subst hq
          refine then_ret ?_
          refine block_ret ?_
          obtain ⟨t1, hn12, hq⟩ := of_mapl' hn11
          subst hq
          have hq := of_inl h
          replace hq := of_some hq
          subst hq
          refine then_ret ?_
          have e13 := of_some hn12
          subst e13
          refine ret_ret ?_
          refine fin0 ttok rfl rfl ?_
          exact (wkP_refl _ rfl)
        · replace hz5 := of_bif_f hz5 c10
          refine awp_skip ?_
          refine then_norm ?_
          refine awp_seq ?_
          refine awp_seq ?_
          refine awp_go hmix ?_
          refine go_run' ttok 2 rfl ?_
          obtain ⟨l1, hv14, hz5⟩ := of_obind hz5
          refine go_sliceT encTProduct l l1 0 vv hv14 (fun _ => rfl) ttok rfl rfl rfl rfl rfl rfl rfl ⟨_, rfl⟩ rfl ?_
          refine go_run' ttok 2 rfl ?_
          obtain ⟨fv, hv15, hz5⟩ := of_obind hz5
          refine go_call fn87 (product_Find_w l1 e.Name fv hv15) rfl rfl rfl rfl rfl rfl rfl ?_
          refine go_run' ttok 5 rfl ?_
          refine go_nil (fun _ => by kernel_rfl) ?_
          refine then_norm ?_
          refine awp_seq ?_
          refine awp_go hmix ?_
          refine go_run' ttok 1 rfl ?_
          refine go_nil nd ?_
          refine then_norm ?_
          refine awp_cond (b := fv.2) rfl (fun c16 => ?_) (fun c16 => ?_)
          · replace hz5 := of_bif_t hz5 c16
            refine awp_seq ?_
            refine awp_go hmix ?_
            refine go_run' ttok 1 rfl ?_
            refine go_nil nd ?_
            refine then_norm ?_
            refine awp_ret ?_
            refine then_ret ?_
            refine block_ret ?_
            refine then_ret ?_
            obtain ⟨t2, hn17, hq⟩ := of_mapr' hz5
            subst hq
            have hq : t2 = _ := hk6
            subst hq
            refine then_ret ?_
            refine block_ret ?_
            obtain ⟨t3, hn18, hq⟩ := of_mapl' hn17
            subst hq
            have hq := of_inl h
            replace hq := of_some hq
            subst hq
            refine then_ret ?_
            have e19 := of_some hn18
            subst e19
            refine ret_ret ?_
            refine fin0 ttok rfl rfl ?_
            exact (wkP_refl _ rfl)
          · replace hz5 := of_bif_f hz5 c16
            refine awp_skip ?_
            refine then_norm ?_
            refine awp_seq ?_
            refine awp_go hmix ?_
            refine go_run' ttok 1 rfl ?_
            obtain ⟨cv, hv20, hz5⟩ := of_obind hz5
            refine go_call fn88 (product_checkNumbers_w e cv hv20) rfl rfl rfl rfl rfl rfl rfl ?_
            refine go_run' ttok 1 rfl ?_
            refine go_nil nd ?_
            refine then_norm ?_
            refine awp_seq ?_
            refine awp_go hmix ?_
            refine go_run' ttok 2 rfl ?_
            refine go_nil nd ?_
            refine then_norm ?_
            refine awp_cond (b := (cv != 0)) rfl (fun c21 => ?_) (fun c21 => ?_)
            · replace hz5 := of_bif_t hz5 c21
              refine awp_seq ?_
              refine awp_go hmix ?_
              refine go_run' ttok 2 rfl ?_
              refine go_nil nd ?_
              refine then_norm ?_
              refine awp_ret ?_
              refine block_ret ?_
              refine then_ret ?_
              obtain ⟨t4, hn22, hq⟩ := of_mapr' hz5
              subst hq
              have hq : t4 = _ := hk6
              subst hq
              refine then_ret ?_
              refine block_ret ?_
              obtain ⟨t5, hn23, hq⟩ := of_mapl' hn22
              subst hq
              have hq := of_inl h
              replace hq := of_some hq
              subst hq
              refine then_ret ?_
              have e24 := of_some hn23
              subst e24
              refine ret_ret ?_
              refine fin0 ttok rfl rfl ?_
              exact (wkP_refl _ rfl)
            · replace hz5 := of_bif_f hz5 c21
              refine awp_skip ?_
              refine block_norm ?_
              refine then_norm ?_
              refine awp_go hmix ?_
              refine go_run' ttok 2 rfl ?_
              refine go_nil nd ?_
              have e25 := of_some hz5
              subst e25
              refine then_norm ⟨rfl, (W64 (vv + 1)), [], ⟨rfl, rfl, rfl, rfl, rfl, ⟨wkP_id _ rfl, trivial⟩, trivial⟩, hk6⟩
      · replace hz5 := of_bif_f hz5 c7
        refine awp_exit ?_
        refine then_exit ?_
        obtain ⟨t6, hn26, hq⟩ := of_mapr' hz5
        subst hq
        have hq : t6 = _ := hk6
        subst hq
        refine then_exit ?_
        refine block_here ?_
        have e27 := of_some hn26
        refine then_norm ⟨rfl, (), [], ⟨rfl, rfl, rfl, rfl, rfl, trivial, trivial⟩, e27⟩
    · intro w hw4
      subst hw4
      replace h := of_inr h
      refine awp_seq ?_
      refine awp_go hmix ?_
      refine go_run' ttok 1 rfl ?_
      refine go_nil nd ?_
      refine then_norm ?_
      refine awp_ret ?_
      have e28 := of_some h
      subst e28
      refine ret_ret ?_
      refine fin0 ttok rfl rfl ?_
      exact (wkP_refl _ rfl)
noncomputable def product_Check_cs1 (N : Nat) (l : (List TProduct)) (vv : Int) : Option (Int ⊕ (Int ⊕ Unit)) :=
  (bif (decide (vv < ((l.length : Nat) : Int))) then (Option.bind (getI l vv) (fun e => (Option.bind ((ident_IsName_c N) e.Name) (fun iv => (bif (!iv) then some (Sum.inr (Sum.inl 6)) else (Option.bind (subO l 0 vv) (fun l1 => (Option.bind ((product_Find_c N) l1 e.Name) (fun fv => (bif fv.2 then some (Sum.inr (Sum.inl 7)) else (Option.bind ((product_checkNumbers_c N) e) (fun cv => (bif (cv != 0) then some (Sum.inr (Sum.inl cv)) else some (Sum.inl (W64 (vv + 1)))))))))))))))) else some (Sum.inr (Sum.inr ())))
theorem product_Check_cs1_le (N : Nat) (l : (List TProduct)) (vv : Int) : OLe (product_Check_cs1 N l vv) (product_Check_s1 l vv) := by
  unfold product_Check_cs1 product_Check_s1
  repeat' (first | exact ole_rfl | exact ident_IsName_le _ _ | exact product_Find_le _ _ _ | exact product_checkNumbers_le _ _ | refine ole_bif ?_ ?_ | refine ole_bind ?_ (fun _ => ?_) | refine ole_let (fun _ => ?_) | refine ole_map ?_ | refine ole_elim (fun _ => ?_) (fun _ => ?_) | refine ole_loop (fun _ => ?_))
noncomputable def product_Check_c (N : Nat) (l : (List TProduct)) : Option Int :=
  (bif (decide (16 < ((l.length : Nat) : Int))) then some 4 else (Option.bind ((iterX N (fun q => product_Check_cs1 N l q) 0) : Option (Int ⊕ Unit)) (Sum.elim (fun q => some q) (fun _ => some 0))))
theorem product_Check_le (N : Nat) (l : (List TProduct)) : OLe (product_Check_c N l) (product_Check_g l) := by
  unfold product_Check_c product_Check_g
  repeat' (first | exact ole_rfl | exact ident_IsName_le _ _ | exact product_Find_le _ _ _ | exact product_checkNumbers_le _ _ | exact product_Check_cs1_le _ _ _ | refine ole_bif ?_ ?_ | refine ole_bind ?_ (fun _ => ?_) | refine ole_let (fun _ => ?_) | refine ole_map ?_ | refine ole_elim (fun _ => ?_) (fun _ => ?_) | refine ole_loop (fun _ => ?_))

noncomputable def worth_isRect_s1 (vr : TRect) (vv : Int) : Option (Int ⊕ (Bool ⊕ Unit)) :=
  (bif (decide (vv < 2)) then (Option.bind (getI [vr.X, vr.Y] vv) (fun e => (bif (decide (e.a < (-600))) then some (Sum.inr (Sum.inl false)) else (bif (decide (600 < e.b)) then some (Sum.inr (Sum.inl false)) else (bif (decide (e.b ≤ e.a)) then some (Sum.inr (Sum.inl false)) else some (Sum.inl (W64 (vv + 1)))))))) else some (Sum.inr (Sum.inr ())))
/-- sawmill/worth.isRect -/
noncomputable def worth_isRect_g (vr : TRect) : Option Bool :=
  (Option.bind ((loopO (fun q => worth_isRect_s1 vr q) 0) : Option (Bool ⊕ Unit)) (Sum.elim (fun q => some q) (fun _ => some true)))
theorem worth_isRect_w (vr : TRect) (r : Bool) (h : worth_isRect_g vr = some r) : Holds Try.prog 33 [(encTRect vr)] [] (B r) [] := by
  unfold worth_isRect_g at h
  refine holds_fn Try.func33 rfl Try.ntmps33 rfl rfl rfl ?_
  refine awp_seq ?_
  refine awp_go hmix ?_
  refine go_run' ttok 2 rfl ?_
  refine go_nil nd ?_
  refine then_norm ?_
  obtain ⟨y, hx1, h⟩ := of_obind h
  refine awp_seqJ (X := Unit) [] [] (fun _ => []) (fun _ => []) (fun w => Sum.inr w = y) rfl rfl ?_ ?_
  · skip
    refine awp_seq ?_
    refine awp_go hmix ?_
    refine go_run' ttok 6 rfl ?_
    refine go_nil nd ?_
    refine then_norm ?_
    refine awp_block ?_
    refine awp_loopD (X := Int) (Y := (Bool ⊕ Unit)) [9] [] (fun q => [(10, (I q))]) (fun q => []) (fun q => worth_isRect_s1 vr q) 0 [] hx1 ⟨rfl, rfl, rfl, rfl, rfl, ⟨wkP_id _ rfl, trivial⟩, trivial⟩ (fun vv vR vz hz3 hk4 => ?_)
    change worth_isRect_s1 vr vv = _ at hz3
    unfold worth_isRect_s1 at hz3
    refine awp_seq ?_
    refine awp_go hmix ?_
    refine go_run' ttok 1 rfl ?_
    refine go_nil nd ?_
    refine then_norm ?_
    refine awp_seq ?_
    refine awp_cond (b := (decide (vv < 2))) rfl (fun c5 => ?_) (fun c5 => ?_)
    · replace hz3 := of_bif_t hz3 c5
      refine awp_skip ?_
      refine then_norm ?_
      refine awp_seq ?_
      refine awp_block ?_
      refine awp_seq ?_
      refine awp_go hmix ?_
      obtain ⟨e, hv6, hz3⟩ := of_obind hz3
      refine go_indexVT encSp [vr.X, vr.Y] vv e hv6 rfl (by intro j el hj; match j, hj with | 0, hj => (cases hj; rfl) | 1, hj => (cases hj; rfl) | (_ + 2), hj => (exact absurd hj (by simp))) ttok rfl rfl rfl rfl rfl rfl rfl rfl ?_
      refine go_run' ttok 2 rfl ?_
      refine go_nil nd ?_
      refine then_norm ?_
      refine awp_seq ?_
      refine awp_go hmix ?_
      refine go_run' ttok 4 rfl ?_
      refine go_gcase rfl rfl rfl (fun g7 => ?_) (fun g7 => ?_)
      · rw [g7]
        replace hz3 := of_bif_t hz3 g7
        refine go_run' ttok 11 rfl ?_
        refine go_nil nd ?_
        refine then_norm ?_
        refine awp_cond rfl (fun tt0 => ?_) (fun h => by cases h)
        clear tt0
        refine awp_seq ?_
        refine awp_go hmix ?_
        refine go_run' ttok 1 rfl ?_
        refine go_nil nd ?_
        refine then_norm ?_
        refine awp_ret ?_
        refine block_ret ?_
        refine then_ret ?_
        obtain ⟨t, hn8, hq⟩ := of_mapr' hz3
        subst hq
        have hq : t = _ := hk4
        subst hq
        refine then_ret ?_
        refine block_ret ?_
        obtain ⟨t1, hn9, hq⟩ := of_mapl' hn8
        subst hq
        have hq := of_inl h
        replace hq := of_some hq
        subst hq
        refine then_ret ?_
        have e10 := of_some hn9
        subst e10
        refine ret_ret ?_
        refine fin0 ttok rfl rfl ?_
        exact (wkP_refl _ rfl)
      · rw [g7]
        replace hz3 := of_bif_f hz3 g7
        refine go_run' ttok 5 rfl ?_
        refine go_gcase rfl rfl rfl (fun g11 => ?_) (fun g11 => ?_)
        · rw [g11]
          replace hz3 := of_bif_t hz3 g11
          refine go_run' ttok 6 rfl ?_
          refine go_nil nd ?_
          refine then_norm ?_
          refine awp_cond rfl (fun tt0 => ?_) (fun h => by cases h)
          clear tt0
          refine awp_seq ?_
          refine awp_go hmix ?_
          refine go_run' ttok 1 rfl ?_
          refine go_nil nd ?_
          refine then_norm ?_
          refine awp_ret ?_
          refine block_ret ?_
          refine then_ret ?_
          obtain ⟨t2, hn12, hq⟩ := of_mapr' hz3
          subst hq
          have hq : t2 = _ := hk4
          subst hq
          refine then_ret ?_
          refine block_ret ?_
          obtain ⟨t3, hn13, hq⟩ := of_mapl' hn12
          subst hq
          have hq := of_inl h
          replace hq := of_some hq
          subst hq
          refine then_ret ?_
          have e14 := of_some hn13
          subst e14
          refine ret_ret ?_
          refine fin0 ttok rfl rfl ?_
          exact (wkP_refl _ rfl)
        · rw [g11]
          replace hz3 := of_bif_f hz3 g11
          refine go_run' ttok 6 rfl ?_
          refine go_nil nd ?_
          refine then_norm ?_
          refine awp_cond (b := (decide (e.b ≤ e.a))) rfl (fun c15 => ?_) (fun c15 => ?_)
          · replace hz3 := of_bif_t hz3 c15
            refine awp_seq ?_
            refine awp_go hmix ?_
            refine go_run' ttok 1 rfl ?_
            refine go_nil nd ?_
            refine then_norm ?_
            refine awp_ret ?_
            refine block_ret ?_
            refine then_ret ?_
            obtain ⟨t4, hn16, hq⟩ := of_mapr' hz3
            subst hq
            have hq : t4 = _ := hk4
            subst hq
            refine then_ret ?_
            refine block_ret ?_
            obtain ⟨t5, hn17, hq⟩ := of_mapl' hn16
            subst hq
            have hq := of_inl h
            replace hq := of_some hq
            subst hq
            refine then_ret ?_
            have e18 := of_some hn17
            subst e18
            refine ret_ret ?_
            refine fin0 ttok rfl rfl ?_
            exact (wkP_refl _ rfl)
          · replace hz3 := of_bif_f hz3 c15
            refine awp_skip ?_
            refine block_norm ?_
            refine then_norm ?_
            refine awp_go hmix ?_
            refine go_run' ttok 2 rfl ?_
            refine go_nil nd ?_
            have e19 := of_some hz3
            subst e19
            refine then_norm ⟨rfl, (W64 (vv + 1)), [], ⟨rfl, rfl, rfl, rfl, rfl, ⟨wkP_id _ rfl, trivial⟩, trivial⟩, hk4⟩
    · replace hz3 := of_bif_f hz3 c5
      refine awp_exit ?_
      refine then_exit ?_
      obtain ⟨t6, hn20, hq⟩ := of_mapr' hz3
      subst hq
      have hq : t6 = _ := hk4
      subst hq
      refine then_exit ?_
      refine block_here ?_
      have e21 := of_some hn20
      refine then_norm ⟨rfl, (), [], ⟨rfl, rfl, rfl, rfl, rfl, trivial, trivial⟩, e21⟩
  · intro w hw2
    subst hw2
    replace h := of_inr h
    refine awp_seq ?_
    refine awp_go hmix ?_
    refine go_run' ttok 1 rfl ?_
    refine go_nil nd ?_
    refine then_norm ?_
    refine awp_ret ?_
    have e22 := of_some h
    subst e22
    refine ret_ret ?_
    refine fin0 ttok rfl rfl ?_
    exact (wkP_refl _ rfl)
noncomputable def worth_isRect_cs1 (N : Nat) (vr : TRect) (vv : Int) : Option (Int ⊕ (Bool ⊕ Unit)) :=
  (bif (decide (vv < 2)) then (Option.bind (getI [vr.X, vr.Y] vv) (fun e => (bif (decide (e.a < (-600))) then some (Sum.inr (Sum.inl false)) else (bif (decide (600 < e.b)) then some (Sum.inr (Sum.inl false)) else (bif (decide (e.b ≤ e.a)) then some (Sum.inr (Sum.inl false)) else some (Sum.inl (W64 (vv + 1)))))))) else some (Sum.inr (Sum.inr ())))
theorem worth_isRect_cs1_le (N : Nat) (vr : TRect) (vv : Int) : OLe (worth_isRect_cs1 N vr vv) (worth_isRect_s1 vr vv) := by
  unfold worth_isRect_cs1 worth_isRect_s1
  repeat' (first | exact ole_rfl | refine ole_bif ?_ ?_ | refine ole_bind ?_ (fun _ => ?_) | refine ole_let (fun _ => ?_) | refine ole_map ?_ | refine ole_elim (fun _ => ?_) (fun _ => ?_) | refine ole_loop (fun _ => ?_))
noncomputable def worth_isRect_c (N : Nat) (vr : TRect) : Option Bool :=
  (Option.bind ((iterX N (fun q => worth_isRect_cs1 N vr q) 0) : Option (Bool ⊕ Unit)) (Sum.elim (fun q => some q) (fun _ => some true)))
theorem worth_isRect_le (N : Nat) (vr : TRect) : OLe (worth_isRect_c N vr) (worth_isRect_g vr) := by
  unfold worth_isRect_c worth_isRect_g
  repeat' (first | exact ole_rfl | exact worth_isRect_cs1_le _ _ _ | refine ole_bif ?_ ?_ | refine ole_bind ?_ (fun _ => ?_) | refine ole_let (fun _ => ?_) | refine ole_map ?_ | refine ole_elim (fun _ => ?_) (fun _ => ?_) | refine ole_loop (fun _ => ?_))

end Go.Proofs.Ytjdgaclkcmjjcaa
