/- B2: what functions of the program compute (written by mod.py). -/
import Derived.Test.YtpoehckffpbfiaaB1
import Derived.KernelRfl
namespace Go.Proofs.Ytpoehckffpbfiaa
open Go Go.Ab
set_option linter.unusedSimpArgs false
set_option linter.unusedVariables false
set_option linter.unusedSectionVars false
set_option maxRecDepth 20000
set_option maxHeartbeats 1000000

/-- sawmill/sawmilllaw30.awake -/
noncomputable def l30_awake_g : Option Bool :=
  (Option.bind l30_sample_g (fun sv => (Option.bind (board_New_g (⟨#[66, 48, 48, 48, 48, 52, 50, 85]⟩ : ByteArray) (⟨#[]⟩ : ByteArray) (⟨(⟨#[112, 105, 110, 101]⟩ : ByteArray), 9000, 0, 0, 0, 0, 0, 0, 0, 0, 0, 0, 0⟩ : TSpecies) sv.Solid ([]) 0 (⟨(⟨0, 105⟩ : Sp), (⟨0, 42⟩ : Sp), (⟨0, 2000⟩ : Sp)⟩ : Bx)) (fun nv => (Option.bind (board_Encode_g nv) (fun ev => (Option.bind (board_Decode_g ev.1) (fun dv => (Option.bind (board_Encode_g (⟨(⟨#[]⟩ : ByteArray), (⟨#[]⟩ : ByteArray), (⟨#[]⟩ : ByteArray), 0, (⟨(⟨0, 0⟩ : Sp), (⟨0, 0⟩ : Sp), (⟨0, 0⟩ : Sp)⟩ : Bx), 0, [], 0, (⟨0, 0, 0⟩ : TCell), false, 0⟩ : TBoard)) (fun ev1 => (bif (ev.2 != 0) then some false else (bif (dv.2 != 0) then some false else (bif (ev1.2 != 0) then some false else (Option.bind (board_Same_g nv dv.1) (fun sv1 => (bif (!sv1) then some false else (Option.bind (board_Same_g nv (⟨(⟨#[]⟩ : ByteArray), (⟨#[]⟩ : ByteArray), (⟨#[]⟩ : ByteArray), 0, (⟨(⟨0, 0⟩ : Sp), (⟨0, 0⟩ : Sp), (⟨0, 0⟩ : Sp)⟩ : Bx), 0, [], 0, (⟨0, 0, 0⟩ : TCell), false, 0⟩ : TBoard)) (fun sv2 => (bif sv2 then some false else (Option.bind (board_Check_g nv ([(⟨(⟨#[112, 108, 97, 110, 107]⟩ : ByteArray), 40, 100, 50, 100, [2000], [70]⟩ : TProduct)])) (fun cv => (bif (cv != 6) then some false else (bif (nv.Volume == 8400000) then (bif (nv.Wane == 48) then (bif (eqV encTCell nv.Cell (⟨9000, 9000, 0⟩ : TCell)) then (Option.bind (board_Volume_g nv) (fun vv => (bif (vv == 8820000) then (bif ((board_Length_g nv) == 2000) then (bif (((ev1.1.size : Nat) : Int) == 19) then (Option.bind (bytO ev1.1 3) (fun c => some (c == 14))) else some false) else some false) else some false))) else some false) else some false) else some false)))))))))))))))))))))))
theorem l30_awake_w (r : Bool) (h : l30_awake_g = some r) : Holds Try.prog 7 [] [] (B r) [] := by
  unfold l30_awake_g at h
  refine holds_fn Try.func7 rfl Try.ntmps7 rfl rfl rfl (fun lim => ?_)
  refine awp_seq ?_
  refine awp_go hmix ?_
  refine go_run' ttok 1 rfl ?_
  refine go_nil nd ?_
  refine then_norm ?_
  refine awp_seq ?_
  refine awp_go hmix ?_
  refine go_run' ttok 5 rfl ?_
  refine go_nil nd ?_
  refine then_norm ?_
  refine awp_seq ?_
  refine awp_go hmix ?_
  refine go_run' ttok 6 rfl ?_
  refine go_nil nd ?_
  refine then_norm ?_
  refine awp_seq ?_
  refine awp_go hmix ?_
  refine go_run' ttok 1 rfl ?_
  obtain ⟨sv, hv1, h⟩ := of_obind h
  refine go_call fn20 (l30_sample_w sv hv1) rfl rfl rfl rfl rfl rfl rfl ?_
  refine go_step rfl (as_field rfl (ttok _ _ rfl) rfl rfl (fun _ h => by rw [Try.underlying47] at h; cases h; rfl) (ttok _ _ rfl) rfl rfl) rfl rfl rfl ?_
  refine go_run' ttok 1 rfl ?_
  obtain ⟨nv, hv2, h⟩ := of_obind h
  refine go_callL (L := []) fn19 (board_New_w (⟨#[66, 48, 48, 48, 48, 52, 50, 85]⟩ : ByteArray) (⟨#[]⟩ : ByteArray) (⟨(⟨#[112, 105, 110, 101]⟩ : ByteArray), 9000, 0, 0, 0, 0, 0, 0, 0, 0, 0, 0, 0⟩ : TSpecies) sv.Solid ([]) 0 (⟨(⟨0, 105⟩ : Sp), (⟨0, 42⟩ : Sp), (⟨0, 2000⟩ : Sp)⟩ : Bx) nv hv2) rfl rfl rfl trivial ⟨(wkP_refl _ rfl), (wkP_refl _ rfl), (wkP_refl _ rfl), (wkP_refl _ rfl), wkP_nilm, (wkP_refl _ rfl), (wkP_refl _ rfl), trivial⟩ rfl rfl (fun h => absurd rfl h) rfl ?_
  refine go_run' ttok 2 rfl ?_
  refine go_nil (fun _ => by kernel_rfl) ?_
  refine then_norm ?_
  refine awp_seq ?_
  refine awp_go hmix ?_
  refine go_run' ttok 1 rfl ?_
  obtain ⟨ev, hv3, h⟩ := of_obind h
  refine go_call fn14 (board_Encode_w nv ev hv3) rfl rfl rfl rfl rfl rfl rfl ?_
  refine go_run' ttok 5 rfl ?_
  refine go_nil nd ?_
  refine then_norm ?_
  refine awp_seq ?_
  refine awp_go hmix ?_
  refine go_run' ttok 1 rfl ?_
  obtain ⟨dv, hv4, h⟩ := of_obind h
  refine go_call fn15 (board_Decode_w ev.1 dv hv4) rfl rfl rfl rfl rfl rfl rfl ?_
  refine go_run' ttok 6 rfl ?_
  refine go_nil nd ?_
  refine then_norm ?_
  refine awp_seq ?_
  refine awp_go hmix ?_
  refine go_run' ttok 1 rfl ?_
  obtain ⟨ev1, hv5, h⟩ := of_obind h
  refine go_callL (L := []) fn14 (board_Encode_w (⟨(⟨#[]⟩ : ByteArray), (⟨#[]⟩ : ByteArray), (⟨#[]⟩ : ByteArray), 0, (⟨(⟨0, 0⟩ : Sp), (⟨0, 0⟩ : Sp), (⟨0, 0⟩ : Sp)⟩ : Bx), 0, [], 0, (⟨0, 0, 0⟩ : TCell), false, 0⟩ : TBoard) ev1 hv5) rfl rfl rfl trivial ⟨⟨(wkP_refl _ rfl), (wkP_refl _ rfl), (wkP_refl _ rfl), (wkP_refl _ rfl), (wkP_refl _ rfl), (wkP_refl _ rfl), (wkP_refl _ rfl), (wkP_refl _ rfl), (wkP_refl _ rfl), (wkP_refl _ rfl), (wkP_refl _ rfl), wkP_nilm, (wkP_refl _ rfl), (wkP_refl _ rfl), (wkP_refl _ rfl), (wkP_refl _ rfl), (wkP_refl _ rfl), (wkP_refl _ rfl), trivial⟩, trivial⟩ rfl rfl (fun h => absurd rfl h) rfl ?_
  refine go_run' ttok 5 rfl ?_
  refine go_nil nd ?_
  refine then_norm ?_
  refine awp_seq ?_
  refine awp_seq ?_
  refine awp_freezeM [1, 3, 5, 6, 7, 8, 9] [3, 6] [(10, some ⟨3, 1, ([2000]).map I⟩), (11, some ⟨3, 1, ([70]).map I⟩)] [(1, some 1), (3, some 3), (6, some 6)] [] [(1, some ⟨54, 7, [(.agg [(S (⟨#[112, 108, 97, 110, 107]⟩ : ByteArray)), (I 40), (I 100), (I 50), (I 100), (encL I ([2000])), (encL I ([70]))])]⟩)] rfl rfl rfl rfl rfl ⟨rfl, by decide, rfl, by decide, trivial⟩ trivial ⟨⟨_, rfl, rfl, rfl, .inr ⟨⟨⟨(wkP_id _ rfl), (wkP_id _ rfl), (wkP_id _ rfl), (wkP_id _ rfl), (wkP_id _ rfl), (wkP_lend rfl (by first | rfl | (simp [setI]; done) | omega | (dsimp only; omega) | (simp [setI]; omega)) (fun _ => rfl)), (wkP_lend rfl (by first | rfl | (simp [setI]; done) | omega | (dsimp only; omega) | (simp [setI]; omega)) (fun _ => rfl)), trivial⟩, trivial⟩, ⟨rfl, trivial⟩⟩⟩, trivial⟩ ?_
  refine awp_go hmix ?_
  refine go_run' ttok 3 rfl ?_
  refine go_gcase rfl rfl rfl (fun g6 => ?_) (fun g6 => ?_)
  · rw [g6]
    replace h := of_bif_t h g6
    refine go_run' ttok 25 rfl ?_
    refine go_nil nd ?_
    refine then_norm ?_
    refine awp_cond rfl (fun tt0 => ?_) (fun h => by cases h)
    clear tt0
    refine awp_seq ?_
    refine awp_go hmix ?_
    refine go_run' ttok 1 rfl ?_
    refine go_nil nd ?_
    refine then_norm ?_
    refine awp_ret ?_
    refine then_ret ?_
    have e7 := of_some h
    subst e7
    refine ret_ret ?_
    refine fin0 ttok rfl rfl ?_
    exact (wkP_refl _ rfl)
  · rw [g6]
    replace h := of_bif_f h g6
    refine go_run' ttok 4 rfl ?_
    refine go_gcase rfl rfl rfl (fun g8 => ?_) (fun g8 => ?_)
    · rw [g8]
      replace h := of_bif_t h g8
      refine go_run' ttok 21 rfl ?_
      refine go_nil nd ?_
      refine then_norm ?_
      refine awp_cond rfl (fun tt0 => ?_) (fun h => by cases h)
      clear tt0
      refine awp_seq ?_
      refine awp_go hmix ?_
      refine go_run' ttok 1 rfl ?_
      refine go_nil nd ?_
      refine then_norm ?_
      refine awp_ret ?_
      refine then_ret ?_
      have e9 := of_some h
      subst e9
      refine ret_ret ?_
      refine fin0 ttok rfl rfl ?_
      exact (wkP_refl _ rfl)
    · rw [g8]
      replace h := of_bif_f h g8
      refine go_run' ttok 4 rfl ?_
      refine go_gcase rfl rfl rfl (fun g10 => ?_) (fun g10 => ?_)
      · rw [g10]
        replace h := of_bif_t h g10
        refine go_run' ttok 17 rfl ?_
        refine go_nil nd ?_
        refine then_norm ?_
        refine awp_cond rfl (fun tt0 => ?_) (fun h => by cases h)
        clear tt0
        refine awp_seq ?_
        refine awp_go hmix ?_
        refine go_run' ttok 1 rfl ?_
        refine go_nil nd ?_
        refine then_norm ?_
        refine awp_ret ?_
        refine then_ret ?_
        have e11 := of_some h
        subst e11
        refine ret_ret ?_
        refine fin0 ttok rfl rfl ?_
        exact (wkP_refl _ rfl)
      · rw [g10]
        replace h := of_bif_f h g10
        refine go_run' ttok 2 rfl ?_
        obtain ⟨sv1, hv12, h⟩ := of_obind h
        refine go_call fn12 (board_Same_w nv dv.1 sv1 hv12) rfl rfl rfl rfl rfl rfl rfl ?_
        refine go_run' ttok 3 rfl ?_
        refine go_gcase rfl rfl rfl (fun g13 => ?_) (fun g13 => ?_)
        · rw [g13]
          replace h := of_bif_t h g13
          refine go_run' ttok 11 rfl ?_
          refine go_nil nd ?_
          refine then_norm ?_
          refine awp_cond rfl (fun tt0 => ?_) (fun h => by cases h)
          clear tt0
          refine awp_seq ?_
          refine awp_go hmix ?_
          refine go_run' ttok 1 rfl ?_
          refine go_nil nd ?_
          refine then_norm ?_
          refine awp_ret ?_
          refine then_ret ?_
          have e14 := of_some h
          subst e14
          refine ret_ret ?_
          refine fin0 ttok rfl rfl ?_
          exact (wkP_refl _ rfl)
        · rw [g13]
          replace h := of_bif_f h g13
          refine go_run' ttok 2 rfl ?_
          obtain ⟨sv2, hv15, h⟩ := of_obind h
          refine go_callL (L := []) fn12 (board_Same_w nv (⟨(⟨#[]⟩ : ByteArray), (⟨#[]⟩ : ByteArray), (⟨#[]⟩ : ByteArray), 0, (⟨(⟨0, 0⟩ : Sp), (⟨0, 0⟩ : Sp), (⟨0, 0⟩ : Sp)⟩ : Bx), 0, [], 0, (⟨0, 0, 0⟩ : TCell), false, 0⟩ : TBoard) sv2 hv15) rfl rfl rfl trivial ⟨(wkP_refl _ rfl), ⟨(wkP_refl _ rfl), (wkP_refl _ rfl), (wkP_refl _ rfl), (wkP_refl _ rfl), (wkP_refl _ rfl), (wkP_refl _ rfl), (wkP_refl _ rfl), (wkP_refl _ rfl), (wkP_refl _ rfl), (wkP_refl _ rfl), (wkP_refl _ rfl), wkP_nilm, (wkP_refl _ rfl), (wkP_refl _ rfl), (wkP_refl _ rfl), (wkP_refl _ rfl), (wkP_refl _ rfl), (wkP_refl _ rfl), trivial⟩, trivial⟩ rfl rfl (fun h => absurd rfl h) rfl ?_
          refine go_run' ttok 2 rfl ?_
          refine go_gcase rfl rfl rfl (fun g16 => ?_) (fun g16 => ?_)
          · rw [g16]
            replace h := of_bif_t h g16
            refine go_run' ttok 6 rfl ?_
            refine go_nil nd ?_
            refine then_norm ?_
            refine awp_cond rfl (fun tt0 => ?_) (fun h => by cases h)
            clear tt0
            refine awp_seq ?_
            refine awp_go hmix ?_
            refine go_run' ttok 1 rfl ?_
            refine go_nil nd ?_
            refine then_norm ?_
            refine awp_ret ?_
            refine then_ret ?_
            have e17 := of_some h
            subst e17
            refine ret_ret ?_
            refine fin0 ttok rfl rfl ?_
            exact (wkP_refl _ rfl)
          · rw [g16]
            replace h := of_bif_f h g16
            refine go_run' ttok 3 rfl ?_
            obtain ⟨cv, hv18, h⟩ := of_obind h
            refine go_callL (L := [(61, some ⟨54, 7, ([(⟨(⟨#[112, 108, 97, 110, 107]⟩ : ByteArray), 40, 100, 50, 100, [2000], [70]⟩ : TProduct)]).map encTProduct⟩)]) fn21 (board_Check_w nv ([(⟨(⟨#[112, 108, 97, 110, 107]⟩ : ByteArray), 40, 100, 50, 100, [2000], [70]⟩ : TProduct)]) cv hv18) rfl rfl rfl ⟨rfl, List.not_mem_nil, trivial⟩ ⟨(wkP_refl _ rfl), (wkP_lend rfl (by first | rfl | (simp [setI]; done) | omega | (dsimp only; omega) | (simp [setI]; omega)) (fun _ => rfl)), trivial⟩ rfl rfl (fun _ => rfl) rfl ?_
            refine go_run' ttok 2 rfl ?_
            refine go_nil nd ?_
            refine then_norm ?_
            refine awp_cond (b := (cv != 6)) rfl (fun c19 => ?_) (fun c19 => ?_)
            · replace h := of_bif_t h c19
              refine awp_seq ?_
              refine awp_go hmix ?_
              refine go_run' ttok 1 rfl ?_
              refine go_nil nd ?_
              refine then_norm ?_
              refine awp_ret ?_
              refine then_ret ?_
              have e20 := of_some h
              subst e20
              refine ret_ret ?_
              refine fin0 ttok rfl rfl ?_
              exact (wkP_refl _ rfl)
            · replace h := of_bif_f h c19
              refine awp_skip ?_
              refine then_norm ?_
              refine awp_seq ?_
              refine awp_go hmix ?_
              refine go_run' ttok 4 rfl ?_
              refine go_gcase rfl rfl rfl (fun g21 => ?_) (fun g21 => ?_)
              · rw [g21]
                replace h := of_bif_t h g21
                refine go_run' ttok 5 rfl ?_
                refine go_gcase rfl rfl rfl (fun g22 => ?_) (fun g22 => ?_)
                · rw [g22]
                  replace h := of_bif_t h g22
                  refine go_run' ttok 3 rfl ?_
                  refine go_step rfl (as_eqAgg shTCell rfl eqT28_1 eqT28_2 (by decide) rfl rfl rfl rfl rfl) rfl rfl rfl ?_
                  refine go_run' ttok 2 rfl ?_
                  refine go_gcase rfl rfl rfl (fun g23 => ?_) (fun g23 => ?_)
                  · rw [g23]
                    replace h := of_bif_t h g23
                    refine go_run' ttok 1 rfl ?_
                    obtain ⟨vv, hv24, h⟩ := of_obind h
                    refine go_call fn10 (board_Volume_w nv vv hv24) rfl rfl rfl rfl rfl rfl rfl ?_
                    refine go_run' ttok 3 rfl ?_
                    refine go_gcase rfl rfl rfl (fun g25 => ?_) (fun g25 => ?_)
                    · rw [g25]
                      replace h := of_bif_t h g25
                      refine go_run' ttok 1 rfl ?_
                      refine go_call fn8 (board_Length_w nv _ rfl) rfl rfl rfl rfl rfl rfl rfl ?_
                      refine go_run' ttok 3 rfl ?_
                      refine go_gcase rfl rfl rfl (fun g26 => ?_) (fun g26 => ?_)
                      · rw [g26]
                        replace h := of_bif_t h g26
                        refine go_run' ttok 5 rfl ?_
                        refine go_gcase rfl rfl rfl (fun g27 => ?_) (fun g27 => ?_)
                        · rw [g27]
                          replace h := of_bif_t h g27
                          refine go_run' ttok 1 rfl ?_
                          obtain ⟨c, hv28, h⟩ := of_obind h
                          refine go_indexB ev1.1 3 c hv28 ttok rfl rfl rfl rfl rfl rfl rfl ?_
                          refine go_run' ttok 3 rfl ?_
                          refine go_nil nd ?_
                          refine then_norm ?_
                          refine awp_ret ?_
                          have e29 := of_some h
                          subst e29
                          refine ret_ret ?_
                          refine fin0 ttok rfl rfl ?_
                          exact (wkP_refl _ rfl)
                        · rw [g27]
                          replace h := of_bif_f h g27
                          refine go_run' ttok 5 rfl ?_
                          refine go_nil nd ?_
                          refine then_norm ?_
                          refine awp_ret ?_
                          have e30 := of_some h
                          subst e30
                          refine ret_ret ?_
                          refine fin0 ttok rfl rfl ?_
                          exact (wkP_refl _ rfl)
                      · rw [g26]
                        replace h := of_bif_f h g26
                        refine go_run' ttok 10 rfl ?_
                        refine go_nil nd ?_
                        refine then_norm ?_
                        refine awp_ret ?_
                        have e31 := of_some h
                        subst e31
                        refine ret_ret ?_
                        refine fin0 ttok rfl rfl ?_
                        exact (wkP_refl _ rfl)
                    · rw [g25]
                      replace h := of_bif_f h g25
                      refine go_run' ttok 15 rfl ?_
                      refine go_nil nd ?_
                      refine then_norm ?_
                      refine awp_ret ?_
                      have e32 := of_some h
                      subst e32
                      refine ret_ret ?_
                      refine fin0 ttok rfl rfl ?_
                      exact (wkP_refl _ rfl)
                  · rw [g23]
                    replace h := of_bif_f h g23
                    refine go_run' ttok 20 rfl ?_
                    refine go_nil nd ?_
                    refine then_norm ?_
                    refine awp_ret ?_
                    have e33 := of_some h
                    subst e33
                    refine ret_ret ?_
                    refine fin0 ttok rfl rfl ?_
                    exact (wkP_refl _ rfl)
                · rw [g22]
                  replace h := of_bif_f h g22
                  refine go_run' ttok 26 rfl ?_
                  refine go_nil nd ?_
                  refine then_norm ?_
                  refine awp_ret ?_
                  have e34 := of_some h
                  subst e34
                  refine ret_ret ?_
                  refine fin0 ttok rfl rfl ?_
                  exact (wkP_refl _ rfl)
              · rw [g21]
                replace h := of_bif_f h g21
                refine go_run' ttok 31 rfl ?_
                refine go_nil nd ?_
                refine then_norm ?_
                refine awp_ret ?_
                have e35 := of_some h
                subst e35
                refine ret_ret ?_
                refine fin0 ttok rfl rfl ?_
                exact (wkP_refl _ rfl)
noncomputable def l30_awake_c (N : Nat) : Option Bool :=
  (Option.bind (l30_sample_c N) (fun sv => (Option.bind ((board_New_c N) (⟨#[66, 48, 48, 48, 48, 52, 50, 85]⟩ : ByteArray) (⟨#[]⟩ : ByteArray) (⟨(⟨#[112, 105, 110, 101]⟩ : ByteArray), 9000, 0, 0, 0, 0, 0, 0, 0, 0, 0, 0, 0⟩ : TSpecies) sv.Solid ([]) 0 (⟨(⟨0, 105⟩ : Sp), (⟨0, 42⟩ : Sp), (⟨0, 2000⟩ : Sp)⟩ : Bx)) (fun nv => (Option.bind ((board_Encode_c N) nv) (fun ev => (Option.bind ((board_Decode_c N) ev.1) (fun dv => (Option.bind ((board_Encode_c N) (⟨(⟨#[]⟩ : ByteArray), (⟨#[]⟩ : ByteArray), (⟨#[]⟩ : ByteArray), 0, (⟨(⟨0, 0⟩ : Sp), (⟨0, 0⟩ : Sp), (⟨0, 0⟩ : Sp)⟩ : Bx), 0, [], 0, (⟨0, 0, 0⟩ : TCell), false, 0⟩ : TBoard)) (fun ev1 => (bif (ev.2 != 0) then some false else (bif (dv.2 != 0) then some false else (bif (ev1.2 != 0) then some false else (Option.bind ((board_Same_c N) nv dv.1) (fun sv1 => (bif (!sv1) then some false else (Option.bind ((board_Same_c N) nv (⟨(⟨#[]⟩ : ByteArray), (⟨#[]⟩ : ByteArray), (⟨#[]⟩ : ByteArray), 0, (⟨(⟨0, 0⟩ : Sp), (⟨0, 0⟩ : Sp), (⟨0, 0⟩ : Sp)⟩ : Bx), 0, [], 0, (⟨0, 0, 0⟩ : TCell), false, 0⟩ : TBoard)) (fun sv2 => (bif sv2 then some false else (Option.bind ((board_Check_c N) nv ([(⟨(⟨#[112, 108, 97, 110, 107]⟩ : ByteArray), 40, 100, 50, 100, [2000], [70]⟩ : TProduct)])) (fun cv => (bif (cv != 6) then some false else (bif (nv.Volume == 8400000) then (bif (nv.Wane == 48) then (bif (eqV encTCell nv.Cell (⟨9000, 9000, 0⟩ : TCell)) then (Option.bind ((board_Volume_c N) nv) (fun vv => (bif (vv == 8820000) then (bif ((board_Length_g nv) == 2000) then (bif (((ev1.1.size : Nat) : Int) == 19) then (Option.bind (bytO ev1.1 3) (fun c => some (c == 14))) else some false) else some false) else some false))) else some false) else some false) else some false)))))))))))))))))))))))
theorem l30_awake_le (N : Nat) : OLe (l30_awake_c N) (l30_awake_g) := by
  unfold l30_awake_c l30_awake_g
  repeat' (first | exact ole_rfl | exact l30_sample_le _ | exact board_New_le _ _ _ _ _ _ _ _ | exact board_Encode_le _ _ | exact board_Decode_le _ _ | exact board_Same_le _ _ _ | exact board_Check_le _ _ _ | exact board_Volume_le _ _ | refine ole_bif ?_ ?_ | refine ole_bind ?_ (fun _ => ?_) | refine ole_let (fun _ => ?_) | refine ole_map ?_ | refine ole_elim (fun _ => ?_) (fun _ => ?_) | refine ole_loop (fun _ => ?_))

/-- sawmill/sawmilllaw30.BoardSizes -/
noncomputable def l30_BoardSizes_g (a : TBoard) (b : TBoard) : Option Bool :=
  (bif (!(l30_few_g a)) then (Option.bind l30_awake_g (fun av => some av)) else (bif (!(l30_few_g b)) then (Option.bind l30_awake_g (fun av1 => some av1)) else (bif ((board_Length_g a) == (r30_Length_g a)) then (Option.bind (board_Volume_g a) (fun vv => (bif (vv == (r30_Volume_g a)) then (Option.bind (board_Same_g a b) (fun sv => (Option.bind (r30_Same_g a b) (fun sv1 => (bif (sv == sv1) then (Option.bind l30_awake_g (fun av2 => some av2)) else some false))))) else some false))) else some false)))
theorem l30_BoardSizes_w (a : TBoard) (b : TBoard) (r : Bool) (h : l30_BoardSizes_g a b = some r) : Holds Try.prog 3 [(encTBoard a), (encTBoard b)] [] (B r) [] := by
  unfold l30_BoardSizes_g at h
  refine holds_fn Try.func3 rfl Try.ntmps3 rfl rfl rfl (fun lim => ?_)
  refine awp_seq ?_
  refine awp_go hmix ?_
  refine go_run' ttok 3 rfl ?_
  refine go_nil nd ?_
  refine then_norm ?_
  refine awp_seq ?_
  refine awp_seq ?_
  refine awp_go hmix ?_
  refine go_run' ttok 1 rfl ?_
  refine go_call fn6 (l30_few_w a _ rfl) rfl rfl rfl rfl rfl rfl rfl ?_
  refine go_run' ttok 2 rfl ?_
  refine go_gcase rfl rfl rfl (fun g1 => ?_) (fun g1 => ?_)
  · rw [g1]
    replace h := of_bif_t h g1
    refine go_run' ttok 4 rfl ?_
    refine go_nil nd ?_
    refine then_norm ?_
    refine awp_cond rfl (fun tt0 => ?_) (fun h => by cases h)
    clear tt0
    refine awp_seq ?_
    refine awp_go hmix ?_
    obtain ⟨av, hv2, h⟩ := of_obind h
    refine go_call fn7 (l30_awake_w av hv2) rfl rfl rfl rfl rfl rfl rfl ?_
    refine go_run' ttok 1 rfl ?_
    refine go_nil nd ?_
    refine then_norm ?_
    refine awp_ret ?_
    refine then_ret ?_
    have e3 := of_some h
    subst e3
    refine ret_ret ?_
    refine fin0 ttok rfl rfl ?_
    exact (wkP_refl _ rfl)
  · rw [g1]
    replace h := of_bif_f h g1
    refine go_run' ttok 1 rfl ?_
    refine go_call fn6 (l30_few_w b _ rfl) rfl rfl rfl rfl rfl rfl rfl ?_
    refine go_run' ttok 2 rfl ?_
    refine go_nil nd ?_
    refine then_norm ?_
    refine awp_cond (b := (!(l30_few_g b))) rfl (fun c4 => ?_) (fun c4 => ?_)
    · replace h := of_bif_t h c4
      refine awp_seq ?_
      refine awp_go hmix ?_
      obtain ⟨av1, hv5, h⟩ := of_obind h
      refine go_call fn7 (l30_awake_w av1 hv5) rfl rfl rfl rfl rfl rfl rfl ?_
      refine go_run' ttok 1 rfl ?_
      refine go_nil nd ?_
      refine then_norm ?_
      refine awp_ret ?_
      refine then_ret ?_
      have e6 := of_some h
      subst e6
      refine ret_ret ?_
      refine fin0 ttok rfl rfl ?_
      exact (wkP_refl _ rfl)
    · replace h := of_bif_f h c4
      refine awp_skip ?_
      refine then_norm ?_
      refine awp_seq ?_
      refine awp_go hmix ?_
      refine go_run' ttok 1 rfl ?_
      refine go_call fn8 (board_Length_w a _ rfl) rfl rfl rfl rfl rfl rfl rfl ?_
      refine go_run' ttok 1 rfl ?_
      refine go_call fn9 (r30_Length_w a _ rfl) rfl rfl rfl rfl rfl rfl rfl ?_
      refine go_run' ttok 2 rfl ?_
      refine go_gcase rfl rfl rfl (fun g7 => ?_) (fun g7 => ?_)
      · rw [g7]
        replace h := of_bif_t h g7
        refine go_run' ttok 1 rfl ?_
        obtain ⟨vv, hv8, h⟩ := of_obind h
        refine go_call fn10 (board_Volume_w a vv hv8) rfl rfl rfl rfl rfl rfl rfl ?_
        refine go_run' ttok 1 rfl ?_
        refine go_call fn11 (r30_Volume_w a _ rfl) rfl rfl rfl rfl rfl rfl rfl ?_
        refine go_run' ttok 3 rfl ?_
        refine go_gcase rfl rfl rfl (fun g9 => ?_) (fun g9 => ?_)
        · rw [g9]
          replace h := of_bif_t h g9
          refine go_run' ttok 2 rfl ?_
          obtain ⟨sv, hv10, h⟩ := of_obind h
          refine go_call fn12 (board_Same_w a b sv hv10) rfl rfl rfl rfl rfl rfl rfl ?_
          refine go_run' ttok 2 rfl ?_
          obtain ⟨sv1, hv11, h⟩ := of_obind h
          refine go_call fn13 (r30_Same_w a b sv1 hv11) rfl rfl rfl rfl rfl rfl rfl ?_
          refine go_step rfl (as_eqBool rfl (ttok _ _ rfl) rfl rfl rfl) rfl rfl rfl ?_
          refine go_run' ttok 2 rfl ?_
          refine go_gcase rfl rfl rfl (fun g12 => ?_) (fun g12 => ?_)
          · rw [g12]
            replace h := of_bif_t h g12
            obtain ⟨av2, hv13, h⟩ := of_obind h
            refine go_call fn7 (l30_awake_w av2 hv13) rfl rfl rfl rfl rfl rfl rfl ?_
            refine go_run' ttok 2 rfl ?_
            refine go_nil (fun _ => by kernel_rfl) ?_
            refine then_norm ?_
            refine awp_ret ?_
            have e14 := of_some h
            subst e14
            refine ret_ret ?_
            refine fin0 ttok rfl rfl ?_
            exact (wkP_refl _ rfl)
          · rw [g12]
            replace h := of_bif_f h g12
            refine go_run' ttok 3 rfl ?_
            refine go_nil (fun _ => by kernel_rfl) ?_
            refine then_norm ?_
            refine awp_ret ?_
            have e15 := of_some h
            subst e15
            refine ret_ret ?_
            refine fin0 ttok rfl rfl ?_
            exact (wkP_refl _ rfl)
        · rw [g9]
          replace h := of_bif_f h g9
          refine go_run' ttok 12 rfl ?_
          refine go_nil (fun _ => by kernel_rfl) ?_
          refine then_norm ?_
          refine awp_ret ?_
          have e16 := of_some h
          subst e16
          refine ret_ret ?_
          refine fin0 ttok rfl rfl ?_
          exact (wkP_refl _ rfl)
      · rw [g7]
        replace h := of_bif_f h g7
        refine go_run' ttok 19 rfl ?_
        refine go_nil (fun _ => by kernel_rfl) ?_
        refine then_norm ?_
        refine awp_ret ?_
        have e17 := of_some h
        subst e17
        refine ret_ret ?_
        refine fin0 ttok rfl rfl ?_
        exact (wkP_refl _ rfl)

/-- sawmill/sawmilllaw30.BoardBack -/
noncomputable def l30_BoardBack_g (a : TBoard) (b : TBoard) (s : ByteArray) : Option Bool :=
  (bif (!(l30_few_g a)) then (Option.bind l30_awake_g (fun av => some av)) else (bif (!(l30_few_g b)) then (Option.bind l30_awake_g (fun av1 => some av1)) else (bif (decide (20000 < ((s.size : Nat) : Int))) then (Option.bind l30_awake_g (fun av2 => some av2)) else (Option.bind (board_Encode_g a) (fun ev => (Option.bind (board_Encode_g b) (fun ev1 => (Option.bind ((bif (ev.2 != 0) then (bif (!(bEq ev.1 (⟨#[]⟩ : ByteArray))) then some (Sum.inl false) else (bif (ev.2 == 0) then (bif (ev1.2 == 0) then (Option.bind (board_Same_g a b) (fun sv => (bif (!((bEq ev.1 ev1.1) == sv)) then some (Sum.inl false) else some (Sum.inr ())))) else some (Sum.inr ())) else some (Sum.inr ()))) else (bif (ev.2 == 0) then (bif (ev1.2 == 0) then (Option.bind (board_Same_g a b) (fun sv1 => (bif (!((bEq ev.1 ev1.1) == sv1)) then some (Sum.inl false) else some (Sum.inr ())))) else some (Sum.inr ())) else some (Sum.inr ()))) : Option (Bool ⊕ Unit)) (Sum.elim (fun q => some q) (fun _ => (Option.bind ((Option.bind (board_Decode_g ev.1) (fun dv => (bif (ev.2 == 0) then (bif (dv.2 != 0) then some (Sum.inl false) else (Option.bind (board_Same_g dv.1 a) (fun sv2 => (bif (!sv2) then some (Sum.inl false) else some (Sum.inr ()))))) else some (Sum.inr ())))) : Option (Bool ⊕ Unit)) (Sum.elim (fun q => some q) (fun _ => (Option.bind (board_Decode_g s) (fun dv1 => (bif (dv1.2 != 0) then (bif (dv1.2 == 5) then (Option.bind (board_Same_g dv1.1 (⟨(⟨#[]⟩ : ByteArray), (⟨#[]⟩ : ByteArray), (⟨#[]⟩ : ByteArray), 0, (⟨(⟨0, 0⟩ : Sp), (⟨0, 0⟩ : Sp), (⟨0, 0⟩ : Sp)⟩ : Bx), 0, [], 0, (⟨0, 0, 0⟩ : TCell), false, 0⟩ : TBoard)) (fun sv3 => (bif sv3 then (Option.bind l30_awake_g (fun av3 => some av3)) else some false))) else some false) else (Option.bind (board_Encode_g dv1.1) (fun ev2 => (bif (ev2.2 == 0) then (bif (bEq ev2.1 s) then (Option.bind l30_awake_g (fun av4 => some av4)) else some false) else some false)))))))))))))))))))
theorem l30_BoardBack_w (a : TBoard) (b : TBoard) (s : ByteArray) (r : Bool) (h : l30_BoardBack_g a b s = some r) : Holds Try.prog 4 [(encTBoard a), (encTBoard b), (S s)] [] (B r) [] := by
  unfold l30_BoardBack_g at h
  refine holds_fn Try.func4 rfl Try.ntmps4 rfl rfl rfl (fun lim => ?_)
  refine awp_seq ?_
  refine awp_go hmix ?_
  refine go_run' ttok 3 rfl ?_
  refine go_nil nd ?_
  refine then_norm ?_
  refine awp_seq ?_
  refine awp_seq ?_
  refine awp_go hmix ?_
  refine go_run' ttok 1 rfl ?_
  refine go_call fn6 (l30_few_w a _ rfl) rfl rfl rfl rfl rfl rfl rfl ?_
  refine go_run' ttok 2 rfl ?_
  refine go_gcase rfl rfl rfl (fun g1 => ?_) (fun g1 => ?_)
  · rw [g1]
    replace h := of_bif_t h g1
    refine go_run' ttok 9 rfl ?_
    refine go_nil nd ?_
    refine then_norm ?_
    refine awp_cond rfl (fun tt0 => ?_) (fun h => by cases h)
    clear tt0
    refine awp_seq ?_
    refine awp_go hmix ?_
    obtain ⟨av, hv2, h⟩ := of_obind h
    refine go_call fn7 (l30_awake_w av hv2) rfl rfl rfl rfl rfl rfl rfl ?_
    refine go_run' ttok 1 rfl ?_
    refine go_nil nd ?_
    refine then_norm ?_
    refine awp_ret ?_
    refine then_ret ?_
    have e3 := of_some h
    subst e3
    refine ret_ret ?_
    refine fin0 ttok rfl rfl ?_
    exact (wkP_refl _ rfl)
  · rw [g1]
    replace h := of_bif_f h g1
    refine go_run' ttok 1 rfl ?_
    refine go_call fn6 (l30_few_w b _ rfl) rfl rfl rfl rfl rfl rfl rfl ?_
    refine go_run' ttok 3 rfl ?_
    refine go_gcase rfl rfl rfl (fun g4 => ?_) (fun g4 => ?_)
    · rw [g4]
      replace h := of_bif_t h g4
      refine go_run' ttok 4 rfl ?_
      refine go_nil nd ?_
      refine then_norm ?_
      refine awp_cond rfl (fun tt0 => ?_) (fun h => by cases h)
      clear tt0
      refine awp_seq ?_
      refine awp_go hmix ?_
      obtain ⟨av1, hv5, h⟩ := of_obind h
      refine go_call fn7 (l30_awake_w av1 hv5) rfl rfl rfl rfl rfl rfl rfl ?_
      refine go_run' ttok 1 rfl ?_
      refine go_nil nd ?_
      refine then_norm ?_
      refine awp_ret ?_
      refine then_ret ?_
      have e6 := of_some h
      subst e6
      refine ret_ret ?_
      refine fin0 ttok rfl rfl ?_
      exact (wkP_refl _ rfl)
    · rw [g4]
      replace h := of_bif_f h g4
      refine go_run' ttok 4 rfl ?_
      refine go_nil nd ?_
      refine then_norm ?_
      refine awp_cond (b := (decide (20000 < ((s.size : Nat) : Int)))) rfl (fun c7 => ?_) (fun c7 => ?_)
      · replace h := of_bif_t h c7
        refine awp_seq ?_
        refine awp_go hmix ?_
        obtain ⟨av2, hv8, h⟩ := of_obind h
        refine go_call fn7 (l30_awake_w av2 hv8) rfl rfl rfl rfl rfl rfl rfl ?_
        refine go_run' ttok 1 rfl ?_
        refine go_nil nd ?_
        refine then_norm ?_
        refine awp_ret ?_
        refine then_ret ?_
        have e9 := of_some h
        subst e9
        refine ret_ret ?_
        refine fin0 ttok rfl rfl ?_
        exact (wkP_refl _ rfl)
      · replace h := of_bif_f h c7
        refine awp_skip ?_
        refine then_norm ?_
        refine awp_seq ?_
        refine awp_go hmix ?_
        refine go_run' ttok 1 rfl ?_
        obtain ⟨ev, hv10, h⟩ := of_obind h
        refine go_call fn14 (board_Encode_w a ev hv10) rfl rfl rfl rfl rfl rfl rfl ?_
        refine go_run' ttok 5 rfl ?_
        refine go_nil nd ?_
        refine then_norm ?_
        refine awp_seq ?_
        refine awp_go hmix ?_
        refine go_run' ttok 1 rfl ?_
        obtain ⟨ev1, hv11, h⟩ := of_obind h
        refine go_call fn14 (board_Encode_w b ev1 hv11) rfl rfl rfl rfl rfl rfl rfl ?_
        refine go_run' ttok 5 rfl ?_
        refine go_nil nd ?_
        refine then_norm ?_
        obtain ⟨y, hx12, h⟩ := of_obind h
        refine awp_seqJ (X := Unit) [2, 3, 7, 8] [3] (fun _ => []) (fun _ => []) (fun w => Sum.inr w = y) rfl rfl ?_ ?_
        · skip
          refine awp_seq ?_
          refine awp_go hmix ?_
          refine go_run' ttok 3 rfl ?_
          refine go_gcase rfl rfl rfl (fun g14 => ?_) (fun g14 => ?_)
          · rw [g14]
            replace hx12 := of_bif_t hx12 g14
            refine go_run' ttok 1 rfl ?_
            refine go_neqS ev.1 (⟨#[]⟩ : ByteArray) rfl rfl rfl rfl rfl ?_
            refine go_run' ttok 2 rfl ?_
            refine go_gcase rfl rfl rfl (fun g15 => ?_) (fun g15 => ?_)
            · rw [g15]
              replace hx12 := of_bif_t hx12 g15
              refine go_run' ttok 16 rfl ?_
              refine go_nil nd ?_
              refine then_norm ?_
              refine awp_cond rfl (fun tt0 => ?_) (fun h => by cases h)
              clear tt0
              refine awp_seq ?_
              refine awp_go hmix ?_
              refine go_run' ttok 1 rfl ?_
              refine go_nil nd ?_
              refine then_norm ?_
              refine awp_ret ?_
              obtain ⟨t, hn16, hq⟩ := of_mapl' hx12
              subst hq
              have hq := of_inl h
              replace hq := of_some hq
              subst hq
              refine then_ret ?_
              have e17 := of_some hn16
              subst e17
              refine ret_ret ?_
              refine fin0 ttok rfl rfl ?_
              exact (wkP_refl _ rfl)
            · rw [g15]
              replace hx12 := of_bif_f hx12 g15
              refine go_run' ttok 3 rfl ?_
              refine go_gcase rfl rfl rfl (fun g18 => ?_) (fun g18 => ?_)
              · rw [g18]
                replace hx12 := of_bif_t hx12 g18
                refine go_run' ttok 4 rfl ?_
                refine go_gcase rfl rfl rfl (fun g19 => ?_) (fun g19 => ?_)
                · rw [g19]
                  replace hx12 := of_bif_t hx12 g19
                  refine go_run' ttok 2 rfl ?_
                  refine go_eqlS ev.1 ev1.1 rfl rfl rfl rfl rfl ?_
                  refine go_run' ttok 2 rfl ?_
                  obtain ⟨sv, hv20, hx12⟩ := of_obind hx12
                  refine go_call fn12 (board_Same_w a b sv hv20) rfl rfl rfl rfl rfl rfl rfl ?_
                  refine go_step rfl (as_neBool rfl (ttok _ _ rfl) rfl rfl rfl) rfl rfl rfl ?_
                  refine go_run' ttok 2 rfl ?_
                  refine go_nil nd ?_
                  refine then_norm ?_
                  refine awp_cond (b := (!((bEq ev.1 ev1.1) == sv))) rfl (fun c21 => ?_) (fun c21 => ?_)
                  · replace hx12 := of_bif_t hx12 c21
                    refine awp_seq ?_
                    refine awp_go hmix ?_
                    refine go_run' ttok 1 rfl ?_
                    refine go_nil nd ?_
                    refine then_norm ?_
                    refine awp_ret ?_
                    obtain ⟨t1, hn22, hq⟩ := of_mapl' hx12
                    subst hq
                    have hq := of_inl h
                    replace hq := of_some hq
                    subst hq
                    refine then_ret ?_
                    have e23 := of_some hn22
                    subst e23
                    refine ret_ret ?_
                    refine fin0 ttok rfl rfl ?_
                    exact (wkP_refl _ rfl)
                  · replace hx12 := of_bif_f hx12 c21
                    refine awp_skip ?_
                    have e24 := of_some hx12
                    refine then_norm ⟨rfl, (), [(3, some 3)], ⟨rfl, rfl, rfl, rfl, rfl, trivial, trivial⟩, e24⟩
                · rw [g19]
                  replace hx12 := of_bif_f hx12 g19
                  refine go_run' ttok 9 rfl ?_
                  refine go_nil nd ?_
                  refine then_norm ?_
                  refine awp_cond rfl (fun h => by cases h) (fun tt0 => ?_)
                  clear tt0
                  refine awp_skip ?_
                  have e25 := of_some hx12
                  refine then_norm ⟨rfl, (), [(3, some 3)], ⟨rfl, rfl, rfl, rfl, rfl, trivial, trivial⟩, e25⟩
              · rw [g18]
                replace hx12 := of_bif_f hx12 g18
                refine go_run' ttok 13 rfl ?_
                refine go_nil nd ?_
                refine then_norm ?_
                refine awp_cond rfl (fun h => by cases h) (fun tt0 => ?_)
                clear tt0
                refine awp_skip ?_
                have e26 := of_some hx12
                refine then_norm ⟨rfl, (), [(3, some 3)], ⟨rfl, rfl, rfl, rfl, rfl, trivial, trivial⟩, e26⟩
          · rw [g14]
            replace hx12 := of_bif_f hx12 g14
            refine go_run' ttok 7 rfl ?_
            refine go_gcase rfl rfl rfl (fun g27 => ?_) (fun g27 => ?_)
            · rw [g27]
              replace hx12 := of_bif_t hx12 g27
              refine go_run' ttok 4 rfl ?_
              refine go_gcase rfl rfl rfl (fun g28 => ?_) (fun g28 => ?_)
              · rw [g28]
                replace hx12 := of_bif_t hx12 g28
                refine go_run' ttok 2 rfl ?_
                refine go_eqlS ev.1 ev1.1 rfl rfl rfl rfl rfl ?_
                refine go_run' ttok 2 rfl ?_
                obtain ⟨sv1, hv29, hx12⟩ := of_obind hx12
                refine go_call fn12 (board_Same_w a b sv1 hv29) rfl rfl rfl rfl rfl rfl rfl ?_
                refine go_step rfl (as_neBool rfl (ttok _ _ rfl) rfl rfl rfl) rfl rfl rfl ?_
                refine go_run' ttok 2 rfl ?_
                refine go_nil nd ?_
                refine then_norm ?_
                refine awp_cond (b := (!((bEq ev.1 ev1.1) == sv1))) rfl (fun c30 => ?_) (fun c30 => ?_)
                · replace hx12 := of_bif_t hx12 c30
                  refine awp_seq ?_
                  refine awp_go hmix ?_
                  refine go_run' ttok 1 rfl ?_
                  refine go_nil nd ?_
                  refine then_norm ?_
                  refine awp_ret ?_
                  obtain ⟨t2, hn31, hq⟩ := of_mapl' hx12
                  subst hq
                  have hq := of_inl h
                  replace hq := of_some hq
                  subst hq
                  refine then_ret ?_
                  have e32 := of_some hn31
                  subst e32
                  refine ret_ret ?_
                  refine fin0 ttok rfl rfl ?_
                  exact (wkP_refl _ rfl)
                · replace hx12 := of_bif_f hx12 c30
                  refine awp_skip ?_
                  have e33 := of_some hx12
                  refine then_norm ⟨rfl, (), [(3, some 3)], ⟨rfl, rfl, rfl, rfl, rfl, trivial, trivial⟩, e33⟩
              · rw [g28]
                replace hx12 := of_bif_f hx12 g28
                refine go_run' ttok 9 rfl ?_
                refine go_nil nd ?_
                refine then_norm ?_
                refine awp_cond rfl (fun h => by cases h) (fun tt0 => ?_)
                clear tt0
                refine awp_skip ?_
                have e34 := of_some hx12
                refine then_norm ⟨rfl, (), [(3, some 3)], ⟨rfl, rfl, rfl, rfl, rfl, trivial, trivial⟩, e34⟩
            · rw [g27]
              replace hx12 := of_bif_f hx12 g27
              refine go_run' ttok 13 rfl ?_
              refine go_nil nd ?_
              refine then_norm ?_
              refine awp_cond rfl (fun h => by cases h) (fun tt0 => ?_)
              clear tt0
              refine awp_skip ?_
              have e35 := of_some hx12
              refine then_norm ⟨rfl, (), [(3, some 3)], ⟨rfl, rfl, rfl, rfl, rfl, trivial, trivial⟩, e35⟩
        · intro w hw13
          subst hw13
          replace h := of_inr h
          obtain ⟨y1, hx36, h⟩ := of_obind h
          refine awp_seqJ (X := Unit) [2] [] (fun _ => []) (fun _ => []) (fun w1 => Sum.inr w1 = y1) rfl rfl ?_ ?_
          · skip
            refine awp_seq ?_
            refine awp_go hmix ?_
            refine go_run' ttok 1 rfl ?_
            obtain ⟨dv, hv38, hx36⟩ := of_obind hx36
            refine go_call fn15 (board_Decode_w ev.1 dv hv38) rfl rfl rfl rfl rfl rfl rfl ?_
            refine go_run' ttok 6 rfl ?_
            refine go_nil nd ?_
            refine then_norm ?_
            refine awp_seq ?_
            refine awp_go hmix ?_
            refine go_run' ttok 3 rfl ?_
            refine go_gcase rfl rfl rfl (fun g39 => ?_) (fun g39 => ?_)
            · rw [g39]
              replace hx36 := of_bif_t hx36 g39
              refine go_run' ttok 3 rfl ?_
              refine go_gcase rfl rfl rfl (fun g40 => ?_) (fun g40 => ?_)
              · rw [g40]
                replace hx36 := of_bif_t hx36 g40
                refine go_run' ttok 6 rfl ?_
                refine go_nil nd ?_
                refine then_norm ?_
                refine awp_cond rfl (fun tt0 => ?_) (fun h => by cases h)
                clear tt0
                refine awp_seq ?_
                refine awp_go hmix ?_
                refine go_run' ttok 1 rfl ?_
                refine go_nil nd ?_
                refine then_norm ?_
                refine awp_ret ?_
                obtain ⟨t3, hn41, hq⟩ := of_mapl' hx36
                subst hq
                have hq := of_inl h
                replace hq := of_some hq
                subst hq
                refine then_ret ?_
                have e42 := of_some hn41
                subst e42
                refine ret_ret ?_
                refine fin0 ttok rfl rfl ?_
                exact (wkP_refl _ rfl)
              · rw [g40]
                replace hx36 := of_bif_f hx36 g40
                refine go_run' ttok 2 rfl ?_
                obtain ⟨sv2, hv43, hx36⟩ := of_obind hx36
                refine go_call fn12 (board_Same_w dv.1 a sv2 hv43) rfl rfl rfl rfl rfl rfl rfl ?_
                refine go_run' ttok 3 rfl ?_
                refine go_nil nd ?_
                refine then_norm ?_
                refine awp_cond (b := (!sv2)) rfl (fun c44 => ?_) (fun c44 => ?_)
                · replace hx36 := of_bif_t hx36 c44
                  refine awp_seq ?_
                  refine awp_go hmix ?_
                  refine go_run' ttok 1 rfl ?_
                  refine go_nil nd ?_
                  refine then_norm ?_
                  refine awp_ret ?_
                  obtain ⟨t4, hn45, hq⟩ := of_mapl' hx36
                  subst hq
                  have hq := of_inl h
                  replace hq := of_some hq
                  subst hq
                  refine then_ret ?_
                  have e46 := of_some hn45
                  subst e46
                  refine ret_ret ?_
                  refine fin0 ttok rfl rfl ?_
                  exact (wkP_refl _ rfl)
                · replace hx36 := of_bif_f hx36 c44
                  refine awp_skip ?_
                  have e47 := of_some hx36
                  refine then_norm ⟨rfl, (), [], ⟨rfl, rfl, rfl, rfl, rfl, trivial, trivial⟩, e47⟩
            · rw [g39]
              replace hx36 := of_bif_f hx36 g39
              refine go_run' ttok 9 rfl ?_
              refine go_nil nd ?_
              refine then_norm ?_
              refine awp_cond rfl (fun h => by cases h) (fun tt0 => ?_)
              clear tt0
              refine awp_skip ?_
              have e48 := of_some hx36
              refine then_norm ⟨rfl, (), [], ⟨rfl, rfl, rfl, rfl, rfl, trivial, trivial⟩, e48⟩
          · intro w1 hw37
            subst hw37
            replace h := of_inr h
            refine awp_seq ?_
            refine awp_go hmix ?_
            refine go_run' ttok 1 rfl ?_
            obtain ⟨dv1, hv49, h⟩ := of_obind h
            refine go_call fn15 (board_Decode_w s dv1 hv49) rfl rfl rfl rfl rfl rfl rfl ?_
            refine go_run' ttok 6 rfl ?_
            refine go_nil nd ?_
            refine then_norm ?_
            refine awp_seq ?_
            refine awp_seq ?_
            refine awp_go hmix ?_
            refine go_run' ttok 2 rfl ?_
            refine go_nil nd ?_
            refine then_norm ?_
            refine awp_cond (b := (dv1.2 != 0)) rfl (fun c50 => ?_) (fun c50 => ?_)
            · replace h := of_bif_t h c50
              refine awp_seq ?_
              refine awp_go hmix ?_
              refine go_run' ttok 3 rfl ?_
              refine go_gcase rfl rfl rfl (fun g51 => ?_) (fun g51 => ?_)
              · rw [g51]
                replace h := of_bif_t h g51
                refine go_run' ttok 2 rfl ?_
                obtain ⟨sv3, hv52, h⟩ := of_obind h
                refine go_callL (L := []) fn12 (board_Same_w dv1.1 (⟨(⟨#[]⟩ : ByteArray), (⟨#[]⟩ : ByteArray), (⟨#[]⟩ : ByteArray), 0, (⟨(⟨0, 0⟩ : Sp), (⟨0, 0⟩ : Sp), (⟨0, 0⟩ : Sp)⟩ : Bx), 0, [], 0, (⟨0, 0, 0⟩ : TCell), false, 0⟩ : TBoard) sv3 hv52) rfl rfl rfl trivial ⟨(wkP_refl _ rfl), ⟨(wkP_refl _ rfl), (wkP_refl _ rfl), (wkP_refl _ rfl), (wkP_refl _ rfl), (wkP_refl _ rfl), (wkP_refl _ rfl), (wkP_refl _ rfl), (wkP_refl _ rfl), (wkP_refl _ rfl), (wkP_refl _ rfl), (wkP_refl _ rfl), wkP_nilm, (wkP_refl _ rfl), (wkP_refl _ rfl), (wkP_refl _ rfl), (wkP_refl _ rfl), (wkP_refl _ rfl), (wkP_refl _ rfl), trivial⟩, trivial⟩ rfl rfl (fun h => absurd rfl h) rfl ?_
                refine go_run' ttok 2 rfl ?_
                refine go_gcase rfl rfl rfl (fun g53 => ?_) (fun g53 => ?_)
                · rw [g53]
                  replace h := of_bif_t h g53
                  obtain ⟨av3, hv54, h⟩ := of_obind h
                  refine go_call fn7 (l30_awake_w av3 hv54) rfl rfl rfl rfl rfl rfl rfl ?_
                  refine go_run' ttok 2 rfl ?_
                  refine go_nil nd ?_
                  refine then_norm ?_
                  refine awp_ret ?_
                  refine then_ret ?_
                  have e55 := of_some h
                  subst e55
                  refine ret_ret ?_
                  refine fin0 ttok rfl rfl ?_
                  exact (wkP_refl _ rfl)
                · rw [g53]
                  replace h := of_bif_f h g53
                  refine go_run' ttok 3 rfl ?_
                  refine go_nil nd ?_
                  refine then_norm ?_
                  refine awp_ret ?_
                  refine then_ret ?_
                  have e56 := of_some h
                  subst e56
                  refine ret_ret ?_
                  refine fin0 ttok rfl rfl ?_
                  exact (wkP_refl _ rfl)
              · rw [g51]
                replace h := of_bif_f h g51
                refine go_run' ttok 8 rfl ?_
                refine go_nil nd ?_
                refine then_norm ?_
                refine awp_ret ?_
                refine then_ret ?_
                have e57 := of_some h
                subst e57
                refine ret_ret ?_
                refine fin0 ttok rfl rfl ?_
                exact (wkP_refl _ rfl)
            · replace h := of_bif_f h c50
              refine awp_skip ?_
              refine then_norm ?_
              refine awp_seq ?_
              refine awp_go hmix ?_
              refine go_run' ttok 1 rfl ?_
              obtain ⟨ev2, hv58, h⟩ := of_obind h
              refine go_call fn14 (board_Encode_w dv1.1 ev2 hv58) rfl rfl rfl rfl rfl rfl rfl ?_
              refine go_run' ttok 5 rfl ?_
              refine go_nil nd ?_
              refine then_norm ?_
              refine awp_seq ?_
              refine awp_go hmix ?_
              refine go_run' ttok 3 rfl ?_
              refine go_gcase rfl rfl rfl (fun g59 => ?_) (fun g59 => ?_)
              · rw [g59]
                replace h := of_bif_t h g59
                refine go_run' ttok 2 rfl ?_
                refine go_eqlS ev2.1 s rfl rfl rfl rfl rfl ?_
                refine go_run' ttok 2 rfl ?_
                refine go_gcase rfl rfl rfl (fun g60 => ?_) (fun g60 => ?_)
                · rw [g60]
                  replace h := of_bif_t h g60
                  obtain ⟨av4, hv61, h⟩ := of_obind h
                  refine go_call fn7 (l30_awake_w av4 hv61) rfl rfl rfl rfl rfl rfl rfl ?_
                  refine go_run' ttok 2 rfl ?_
                  refine go_nil nd ?_
                  refine then_norm ?_
                  refine awp_ret ?_
                  have e62 := of_some h
                  subst e62
                  refine ret_ret ?_
                  refine fin0 ttok rfl rfl ?_
                  exact (wkP_refl _ rfl)
                · rw [g60]
                  replace h := of_bif_f h g60
                  refine go_run' ttok 3 rfl ?_
                  refine go_nil nd ?_
                  refine then_norm ?_
                  refine awp_ret ?_
                  have e63 := of_some h
                  subst e63
                  refine ret_ret ?_
                  refine fin0 ttok rfl rfl ?_
                  exact (wkP_refl _ rfl)
              · rw [g59]
                replace h := of_bif_f h g59
                refine go_run' ttok 8 rfl ?_
                refine go_nil nd ?_
                refine then_norm ?_
                refine awp_ret ?_
                have e64 := of_some h
                subst e64
                refine ret_ret ?_
                refine fin0 ttok rfl rfl ?_
                exact (wkP_refl _ rfl)

/-- sawmill/sawmilllaw30.BoardVolumes -/
noncomputable def l30_BoardVolumes_g (m : Tsawmilllaw30_Made) (x : Tsawmilllaw30_Log) : Option Bool :=
  (Option.bind (l30_Short_g x) (fun sv => (bif (!sv) then (Option.bind l30_awake_g (fun av => some av)) else (bif (decide (100 < ((m.Id.size : Nat) : Int))) then (Option.bind l30_awake_g (fun av1 => some av1)) else (bif (decide (100 < ((m.Log.size : Nat) : Int))) then (Option.bind l30_awake_g (fun av2 => some av2)) else (bif (decide (100 < ((m.Species.Name.size : Nat) : Int))) then (Option.bind l30_awake_g (fun av3 => some av3)) else (Option.bind (l30_made_g m x) (fun mv => (Option.bind (board_Volume_g mv) (fun vv => (Option.bind (worth_Wane_g x.Solid m.Box) (fun wv => (bif (wv != mv.Wane) then some false else (bif (decide (mv.Wane < 0)) then some false else (bif (decide (1000 < mv.Wane)) then some false else (bif mv.Dried then some false else (bif (mv.Grade != 0) then some false else (bif (mv.Wane == 1000) then (bif (vv == 0) then (Option.bind l30_awake_g (fun av4 => some av4)) else (bif (decide (mv.Volume < vv)) then (Option.bind l30_awake_g (fun av5 => some av5)) else some false)) else (bif (decide (0 < vv)) then (bif ((mv.Volume == vv) == (mv.Wane == 0)) then (bif (decide (mv.Volume ≤ vv)) then (bif (decide ((W64 (1000 * (W64 (vv - mv.Volume)))) ≤ (W64 (mv.Wane * vv)))) then (Option.bind l30_awake_g (fun av6 => some av6)) else some false) else some false) else some false) else some false)))))))))))))))))))
theorem l30_BoardVolumes_w (m : Tsawmilllaw30_Made) (x : Tsawmilllaw30_Log) (r : Bool) (h : l30_BoardVolumes_g m x = some r) : Holds Try.prog 5 [(encTsawmilllaw30_Made m), (encTsawmilllaw30_Log x)] [] (B r) [] := by
  unfold l30_BoardVolumes_g at h
  refine holds_fn Try.func5 rfl Try.ntmps5 rfl rfl rfl (fun lim => ?_)
  refine awp_seq ?_
  refine awp_go hmix ?_
  refine go_run' ttok 3 rfl ?_
  refine go_nil nd ?_
  refine then_norm ?_
  refine awp_seq ?_
  refine awp_seq ?_
  refine awp_go hmix ?_
  refine go_run' ttok 1 rfl ?_
  obtain ⟨sv, hv1, h⟩ := of_obind h
  refine go_call fn16 (l30_Short_w x sv hv1) rfl rfl rfl rfl rfl rfl rfl ?_
  refine go_run' ttok 2 rfl ?_
  refine go_gcase rfl rfl rfl (fun g2 => ?_) (fun g2 => ?_)
  · rw [g2]
    replace h := of_bif_t h g2
    refine go_run' ttok 18 rfl ?_
    refine go_nil nd ?_
    refine then_norm ?_
    refine awp_cond rfl (fun tt0 => ?_) (fun h => by cases h)
    clear tt0
    refine awp_seq ?_
    refine awp_go hmix ?_
    obtain ⟨av, hv3, h⟩ := of_obind h
    refine go_call fn7 (l30_awake_w av hv3) rfl rfl rfl rfl rfl rfl rfl ?_
    refine go_run' ttok 1 rfl ?_
    refine go_nil nd ?_
    refine then_norm ?_
    refine awp_ret ?_
    refine then_ret ?_
    have e4 := of_some h
    subst e4
    refine ret_ret ?_
    refine fin0 ttok rfl rfl ?_
    exact (wkP_refl _ rfl)
  · rw [g2]
    replace h := of_bif_f h g2
    refine go_run' ttok 6 rfl ?_
    refine go_gcase rfl rfl rfl (fun g5 => ?_) (fun g5 => ?_)
    · rw [g5]
      replace h := of_bif_t h g5
      refine go_run' ttok 12 rfl ?_
      refine go_nil nd ?_
      refine then_norm ?_
      refine awp_cond rfl (fun tt0 => ?_) (fun h => by cases h)
      clear tt0
      refine awp_seq ?_
      refine awp_go hmix ?_
      obtain ⟨av1, hv6, h⟩ := of_obind h
      refine go_call fn7 (l30_awake_w av1 hv6) rfl rfl rfl rfl rfl rfl rfl ?_
      refine go_run' ttok 1 rfl ?_
      refine go_nil nd ?_
      refine then_norm ?_
      refine awp_ret ?_
      refine then_ret ?_
      have e7 := of_some h
      subst e7
      refine ret_ret ?_
      refine fin0 ttok rfl rfl ?_
      exact (wkP_refl _ rfl)
    · rw [g5]
      replace h := of_bif_f h g5
      refine go_run' ttok 6 rfl ?_
      refine go_gcase rfl rfl rfl (fun g8 => ?_) (fun g8 => ?_)
      · rw [g8]
        replace h := of_bif_t h g8
        refine go_run' ttok 6 rfl ?_
        refine go_nil nd ?_
        refine then_norm ?_
        refine awp_cond rfl (fun tt0 => ?_) (fun h => by cases h)
        clear tt0
        refine awp_seq ?_
        refine awp_go hmix ?_
        obtain ⟨av2, hv9, h⟩ := of_obind h
        refine go_call fn7 (l30_awake_w av2 hv9) rfl rfl rfl rfl rfl rfl rfl ?_
        refine go_run' ttok 1 rfl ?_
        refine go_nil nd ?_
        refine then_norm ?_
        refine awp_ret ?_
        refine then_ret ?_
        have e10 := of_some h
        subst e10
        refine ret_ret ?_
        refine fin0 ttok rfl rfl ?_
        exact (wkP_refl _ rfl)
      · rw [g8]
        replace h := of_bif_f h g8
        refine go_run' ttok 6 rfl ?_
        refine go_nil nd ?_
        refine then_norm ?_
        refine awp_cond (b := (decide (100 < ((m.Species.Name.size : Nat) : Int)))) rfl (fun c11 => ?_) (fun c11 => ?_)
        · replace h := of_bif_t h c11
          refine awp_seq ?_
          refine awp_go hmix ?_
          obtain ⟨av3, hv12, h⟩ := of_obind h
          refine go_call fn7 (l30_awake_w av3 hv12) rfl rfl rfl rfl rfl rfl rfl ?_
          refine go_run' ttok 1 rfl ?_
          refine go_nil nd ?_
          refine then_norm ?_
          refine awp_ret ?_
          refine then_ret ?_
          have e13 := of_some h
          subst e13
          refine ret_ret ?_
          refine fin0 ttok rfl rfl ?_
          exact (wkP_refl _ rfl)
        · replace h := of_bif_f h c11
          refine awp_skip ?_
          refine then_norm ?_
          refine awp_seq ?_
          refine awp_go hmix ?_
          refine go_run' ttok 2 rfl ?_
          obtain ⟨mv, hv14, h⟩ := of_obind h
          refine go_call fn17 (l30_made_w m x mv hv14) rfl rfl rfl rfl rfl rfl rfl ?_
          refine go_run' ttok 2 rfl ?_
          refine go_nil nd ?_
          refine then_norm ?_
          refine awp_seq ?_
          refine awp_go hmix ?_
          refine go_run' ttok 1 rfl ?_
          obtain ⟨vv, hv15, h⟩ := of_obind h
          refine go_call fn10 (board_Volume_w mv vv hv15) rfl rfl rfl rfl rfl rfl rfl ?_
          refine go_run' ttok 1 rfl ?_
          refine go_nil nd ?_
          refine then_norm ?_
          refine awp_seq ?_
          refine awp_seq ?_
          refine awp_go hmix ?_
          refine go_run' ttok 4 rfl ?_
          obtain ⟨wv, hv16, h⟩ := of_obind h
          refine go_call fn18 (worth_Wane_w x.Solid m.Box wv hv16) rfl rfl rfl rfl rfl rfl rfl ?_
          refine go_run' ttok 4 rfl ?_
          refine go_gcase rfl rfl rfl (fun g17 => ?_) (fun g17 => ?_)
          · rw [g17]
            replace h := of_bif_t h g17
            refine go_run' ttok 18 rfl ?_
            refine go_nil (fun _ => by kernel_rfl) ?_
            refine then_norm ?_
            refine awp_cond rfl (fun tt0 => ?_) (fun h => by cases h)
            clear tt0
            refine awp_seq ?_
            refine awp_go hmix ?_
            refine go_run' ttok 1 rfl ?_
            refine go_nil nd ?_
            refine then_norm ?_
            refine awp_ret ?_
            refine then_ret ?_
            have e18 := of_some h
            subst e18
            refine ret_ret ?_
            refine fin0 ttok rfl rfl ?_
            exact (wkP_refl _ rfl)
          · rw [g17]
            replace h := of_bif_f h g17
            refine go_run' ttok 5 rfl ?_
            refine go_gcase rfl rfl rfl (fun g19 => ?_) (fun g19 => ?_)
            · rw [g19]
              replace h := of_bif_t h g19
              refine go_run' ttok 13 rfl ?_
              refine go_nil (fun _ => by kernel_rfl) ?_
              refine then_norm ?_
              refine awp_cond rfl (fun tt0 => ?_) (fun h => by cases h)
              clear tt0
              refine awp_seq ?_
              refine awp_go hmix ?_
              refine go_run' ttok 1 rfl ?_
              refine go_nil nd ?_
              refine then_norm ?_
              refine awp_ret ?_
              refine then_ret ?_
              have e20 := of_some h
              subst e20
              refine ret_ret ?_
              refine fin0 ttok rfl rfl ?_
              exact (wkP_refl _ rfl)
            · rw [g19]
              replace h := of_bif_f h g19
              refine go_run' ttok 5 rfl ?_
              refine go_gcase rfl rfl rfl (fun g21 => ?_) (fun g21 => ?_)
              · rw [g21]
                replace h := of_bif_t h g21
                refine go_run' ttok 8 rfl ?_
                refine go_nil (fun _ => by kernel_rfl) ?_
                refine then_norm ?_
                refine awp_cond rfl (fun tt0 => ?_) (fun h => by cases h)
                clear tt0
                refine awp_seq ?_
                refine awp_go hmix ?_
                refine go_run' ttok 1 rfl ?_
                refine go_nil nd ?_
                refine then_norm ?_
                refine awp_ret ?_
                refine then_ret ?_
                have e22 := of_some h
                subst e22
                refine ret_ret ?_
                refine fin0 ttok rfl rfl ?_
                exact (wkP_refl _ rfl)
              · rw [g21]
                replace h := of_bif_f h g21
                refine go_run' ttok 4 rfl ?_
                refine go_gcase rfl rfl rfl (fun g23 => ?_) (fun g23 => ?_)
                · rw [g23]
                  replace h := of_bif_t h g23
                  refine go_run' ttok 4 rfl ?_
                  refine go_nil (fun _ => by kernel_rfl) ?_
                  refine then_norm ?_
                  refine awp_cond rfl (fun tt0 => ?_) (fun h => by cases h)
                  clear tt0
                  refine awp_seq ?_
                  refine awp_go hmix ?_
                  refine go_run' ttok 1 rfl ?_
                  refine go_nil nd ?_
                  refine then_norm ?_
                  refine awp_ret ?_
                  refine then_ret ?_
                  have e24 := of_some h
                  subst e24
                  refine ret_ret ?_
                  refine fin0 ttok rfl rfl ?_
                  exact (wkP_refl _ rfl)
                · rw [g23]
                  replace h := of_bif_f h g23
                  refine go_run' ttok 4 rfl ?_
                  refine go_nil (fun _ => by kernel_rfl) ?_
                  refine then_norm ?_
                  refine awp_cond (b := (mv.Grade != 0)) rfl (fun c25 => ?_) (fun c25 => ?_)
                  · replace h := of_bif_t h c25
                    refine awp_seq ?_
                    refine awp_go hmix ?_
                    refine go_run' ttok 1 rfl ?_
                    refine go_nil nd ?_
                    refine then_norm ?_
                    refine awp_ret ?_
                    refine then_ret ?_
                    have e26 := of_some h
                    subst e26
                    refine ret_ret ?_
                    refine fin0 ttok rfl rfl ?_
                    exact (wkP_refl _ rfl)
                  · replace h := of_bif_f h c25
                    refine awp_skip ?_
                    refine then_norm ?_
                    refine awp_seq ?_
                    refine awp_seq ?_
                    refine awp_go hmix ?_
                    refine go_run' ttok 3 rfl ?_
                    refine go_nil nd ?_
                    refine then_norm ?_
                    refine awp_cond (b := (mv.Wane == 1000)) rfl (fun c27 => ?_) (fun c27 => ?_)
                    · replace h := of_bif_t h c27
                      refine awp_seq ?_
                      refine awp_go hmix ?_
                      refine go_run' ttok 3 rfl ?_
                      refine go_gcase rfl rfl rfl (fun g28 => ?_) (fun g28 => ?_)
                      · rw [g28]
                        replace h := of_bif_t h g28
                        refine go_run' ttok 6 rfl ?_
                        obtain ⟨av4, hv29, h⟩ := of_obind h
                        refine go_call fn7 (l30_awake_w av4 hv29) rfl rfl rfl rfl rfl rfl rfl ?_
                        refine go_run' ttok 2 rfl ?_
                        refine go_nil nd ?_
                        refine then_norm ?_
                        refine awp_ret ?_
                        refine then_ret ?_
                        have e30 := of_some h
                        subst e30
                        refine ret_ret ?_
                        refine fin0 ttok rfl rfl ?_
                        exact (wkP_refl _ rfl)
                      · rw [g28]
                        replace h := of_bif_f h g28
                        refine go_run' ttok 6 rfl ?_
                        refine go_gcase rfl rfl rfl (fun g31 => ?_) (fun g31 => ?_)
                        · rw [g31]
                          replace h := of_bif_t h g31
                          obtain ⟨av5, hv32, h⟩ := of_obind h
                          refine go_call fn7 (l30_awake_w av5 hv32) rfl rfl rfl rfl rfl rfl rfl ?_
                          refine go_run' ttok 2 rfl ?_
                          refine go_nil nd ?_
                          refine then_norm ?_
                          refine awp_ret ?_
                          refine then_ret ?_
                          have e33 := of_some h
                          subst e33
                          refine ret_ret ?_
                          refine fin0 ttok rfl rfl ?_
                          exact (wkP_refl _ rfl)
                        · rw [g31]
                          replace h := of_bif_f h g31
                          refine go_run' ttok 3 rfl ?_
                          refine go_nil nd ?_
                          refine then_norm ?_
                          refine awp_ret ?_
                          refine then_ret ?_
                          have e34 := of_some h
                          subst e34
                          refine ret_ret ?_
                          refine fin0 ttok rfl rfl ?_
                          exact (wkP_refl _ rfl)
                    · replace h := of_bif_f h c27
                      refine awp_skip ?_
                      refine then_norm ?_
                      refine awp_seq ?_
                      refine awp_go hmix ?_
                      refine go_run' ttok 3 rfl ?_
                      refine go_gcase rfl rfl rfl (fun g35 => ?_) (fun g35 => ?_)
                      · rw [g35]
                        replace h := of_bif_t h g35
                        refine go_run' ttok 7 rfl ?_
                        refine go_step rfl (as_eqBool rfl (ttok _ _ rfl) rfl rfl rfl) rfl rfl rfl ?_
                        refine go_run' ttok 2 rfl ?_
                        refine go_gcase rfl rfl rfl (fun g36 => ?_) (fun g36 => ?_)
                        · rw [g36]
                          replace h := of_bif_t h g36
                          refine go_run' ttok 6 rfl ?_
                          refine go_gcase rfl rfl rfl (fun g37 => ?_) (fun g37 => ?_)
                          · rw [g37]
                            replace h := of_bif_t h g37
                            refine go_run' ttok 12 rfl ?_
                            refine go_gcase rfl rfl rfl (fun g38 => ?_) (fun g38 => ?_)
                            · rw [g38]
                              replace h := of_bif_t h g38
                              obtain ⟨av6, hv39, h⟩ := of_obind h
                              refine go_call fn7 (l30_awake_w av6 hv39) rfl rfl rfl rfl rfl rfl rfl ?_
                              refine go_run' ttok 2 rfl ?_
                              refine go_nil nd ?_
                              refine then_norm ?_
                              refine awp_ret ?_
                              have e40 := of_some h
                              subst e40
                              refine ret_ret ?_
                              refine fin0 ttok rfl rfl ?_
                              exact (wkP_refl _ rfl)
                            · rw [g38]
                              replace h := of_bif_f h g38
                              refine go_run' ttok 3 rfl ?_
                              refine go_nil nd ?_
                              refine then_norm ?_
                              refine awp_ret ?_
                              have e41 := of_some h
                              subst e41
                              refine ret_ret ?_
                              refine fin0 ttok rfl rfl ?_
                              exact (wkP_refl _ rfl)
                          · rw [g37]
                            replace h := of_bif_f h g37
                            refine go_run' ttok 15 rfl ?_
                            refine go_nil nd ?_
                            refine then_norm ?_
                            refine awp_ret ?_
                            have e42 := of_some h
                            subst e42
                            refine ret_ret ?_
                            refine fin0 ttok rfl rfl ?_
                            exact (wkP_refl _ rfl)
                        · rw [g36]
                          replace h := of_bif_f h g36
                          refine go_run' ttok 21 rfl ?_
                          refine go_nil nd ?_
                          refine then_norm ?_
                          refine awp_ret ?_
                          have e43 := of_some h
                          subst e43
                          refine ret_ret ?_
                          refine fin0 ttok rfl rfl ?_
                          exact (wkP_refl _ rfl)
                      · rw [g35]
                        replace h := of_bif_f h g35
                        refine go_run' ttok 31 rfl ?_
                        refine go_nil nd ?_
                        refine then_norm ?_
                        refine awp_ret ?_
                        have e44 := of_some h
                        subst e44
                        refine ret_ret ?_
                        refine fin0 ttok rfl rfl ?_
                        exact (wkP_refl _ rfl)

theorem aw30 : l30_awake_g = some true := l30_awake_le 300 true (by kernel_rfl)

end Go.Proofs.Ytpoehckffpbfiaa
