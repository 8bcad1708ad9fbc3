/- B2: what functions of the program compute (written by mod.py). -/
import Derived.Test.YtpoehckffpbfiaaGreatXAB1
import Derived.KernelRfl
namespace Go.Proofs.YtpoehckffpbfiaaGreat
open Go Go.Ab
set_option linter.unusedSimpArgs false
set_option linter.unusedVariables false
set_option linter.unusedSectionVars false
set_option maxRecDepth 20000
set_option maxHeartbeats 1000000
noncomputable def l30_awake_g : Option Bool :=
 (Option.bind l30_sample_g (fun sv => (Option.bind (board_New_g (⟨#[66, 48, 48, 48, 48, 52, 50, 85]⟩ : ByteArray) (⟨#[]⟩ : ByteArray) (⟨(⟨#[112, 105, 110, 101]⟩ : ByteArray), 9000, 0, 0, 0, 0, 0, 0, 0, 0, 0, 0, 0⟩ : TSpecies) sv.Solid ([]) 0 (⟨(⟨0, 105⟩ : Sp), (⟨0, 42⟩ : Sp), (⟨0, 2000⟩ : Sp)⟩ : Bx)) (fun nv => (Option.bind (board_Encode_g nv) (fun ev => (Option.bind (board_Decode_g ev.1) (fun dv => (Option.bind (board_Encode_g (⟨(⟨#[]⟩ : ByteArray), (⟨#[]⟩ : ByteArray), (⟨#[]⟩ : ByteArray), 0, (⟨(⟨0, 0⟩ : Sp), (⟨0, 0⟩ : Sp), (⟨0, 0⟩ : Sp)⟩ : Bx), 0, [], 0, (⟨0, 0, 0⟩ : TCell), false, 0⟩ : TBoard)) (fun ev1 => (bif (ev.2 != 0) then some false else (bif (dv.2 != 0) then some false else (bif (ev1.2 != 0) then some false else (Option.bind (board_Same_g nv dv.1) (fun sv1 => (bif (!sv1) then some false else (Option.bind (board_Same_g nv (⟨(⟨#[]⟩ : ByteArray), (⟨#[]⟩ : ByteArray), (⟨#[]⟩ : ByteArray), 0, (⟨(⟨0, 0⟩ : Sp), (⟨0, 0⟩ : Sp), (⟨0, 0⟩ : Sp)⟩ : Bx), 0, [], 0, (⟨0, 0, 0⟩ : TCell), false, 0⟩ : TBoard)) (fun sv2 => (bif sv2 then some false else (Option.bind (board_Check_g nv ([(⟨(⟨#[112, 108, 97, 110, 107]⟩ : ByteArray), 40, 100, 50, 100, [2000], [70]⟩ : TProduct)])) (fun cv => (bif (cv != 6) then some false else (bif (nv.Volume == 8400000) then (bif (nv.Wane == 48) then (bif (eqV encTCell nv.Cell (⟨9000, 9000, 0⟩ : TCell)) then (Option.bind (board_Volume_g nv) (fun vv => (bif (vv == 8820000) then (bif ((board_Length_g nv) == 2000) then (bif (((ev1.1.size : Nat) : Int) == 19) then (Option.bind (bytO ev1.1 3) (fun c => some (c == 14))) else some false) else some false) else some false))) else some false) else some false) else some false)))))))))))))))))))))))
theorem l30_awake_w (r : Bool) (h : l30_awake_g = some r) : Holds Tryz.prog 11 [] [] (B r) [] := by
 unfold l30_awake_g at h
 refine holds_fn Tryz.func11 rfl Tryz.ntmps11 rfl rfl rfl (fun lim => ?_)
 refine awp_seq ?_
 refine awp_go hmix ?_
 refine go_run' ttok 1 rfl ?_
 refine go_nil nd ?_
 refine then_norm ?_
 refine awp_seq ?_
 refine awp_go hmix ?_
 refine go_run' ttok 5 rfl ?_
 refine go_nil nd ?_
 refine then_norm ?_
 refine awp_seq ?_
 refine awp_go hmix ?_
 refine go_run' ttok 6 rfl ?_
 refine go_nil nd ?_
 refine then_norm ?_
 refine awp_seq ?_
 refine awp_go hmix ?_
 refine go_run' ttok 1 rfl ?_
 obtain ⟨sv, hv1, h⟩ := of_obind h
 refine go_call fn43 (l30_sample_w sv hv1) rfl rfl rfl rfl rfl rfl rfl ?_
 refine go_step rfl (as_field rfl (ttok _ _ rfl) rfl rfl (fun _ h => by rw [Tryz.underlying44] at h; cases h; rfl) (ttok _ _ rfl) rfl rfl) rfl rfl rfl ?_
 refine go_run' ttok 1 rfl ?_
 obtain ⟨nv, hv2, h⟩ := of_obind h
 refine go_callL (L := []) fn42 (board_New_w (⟨#[66, 48, 48, 48, 48, 52, 50, 85]⟩ : ByteArray) (⟨#[]⟩ : ByteArray) (⟨(⟨#[112, 105, 110, 101]⟩ : ByteArray), 9000, 0, 0, 0, 0, 0, 0, 0, 0, 0, 0, 0⟩ : TSpecies) sv.Solid ([]) 0 (⟨(⟨0, 105⟩ : Sp), (⟨0, 42⟩ : Sp), (⟨0, 2000⟩ : Sp)⟩ : Bx) nv hv2) rfl rfl rfl trivial ⟨(wkP_refl _ rfl), (wkP_refl _ rfl), (wkP_refl _ rfl), (wkP_refl _ rfl), wkP_nilm, (wkP_refl _ rfl), (wkP_refl _ rfl), trivial⟩ rfl rfl (fun h => absurd rfl h) rfl ?_
 refine go_run' ttok 2 rfl ?_
 refine go_nil (fun _ => by kernel_rfl) ?_
 refine then_norm ?_
 refine awp_seq ?_
 refine awp_go hmix ?_
 refine go_run' ttok 1 rfl ?_
 obtain ⟨ev, hv3, h⟩ := of_obind h
 refine go_call fn16 (board_Encode_w nv ev hv3) rfl rfl rfl rfl rfl rfl rfl ?_
 refine go_run' ttok 5 rfl ?_
 refine go_nil nd ?_
 refine then_norm ?_
 refine awp_seq ?_
 refine awp_go hmix ?_
 refine go_run' ttok 1 rfl ?_
 obtain ⟨dv, hv4, h⟩ := of_obind h
 refine go_call fn18 (board_Decode_w ev.1 dv hv4) rfl rfl rfl rfl rfl rfl rfl ?_
 refine go_run' ttok 6 rfl ?_
 refine go_nil nd ?_
 refine then_norm ?_
 refine awp_seq ?_
 refine awp_go hmix ?_
 refine go_run' ttok 1 rfl ?_
 obtain ⟨ev1, hv5, h⟩ := of_obind h
 refine go_callL (L := []) fn16 (board_Encode_w (⟨(⟨#[]⟩ : ByteArray), (⟨#[]⟩ : ByteArray), (⟨#[]⟩ : ByteArray), 0, (⟨(⟨0, 0⟩ : Sp), (⟨0, 0⟩ : Sp), (⟨0, 0⟩ : Sp)⟩ : Bx), 0, [], 0, (⟨0, 0, 0⟩ : TCell), false, 0⟩ : TBoard) ev1 hv5) rfl rfl rfl trivial ⟨⟨(wkP_refl _ rfl), (wkP_refl _ rfl), (wkP_refl _ rfl), (wkP_refl _ rfl), (wkP_refl _ rfl), (wkP_refl _ rfl), (wkP_refl _ rfl), (wkP_refl _ rfl), (wkP_refl _ rfl), (wkP_refl _ rfl), (wkP_refl _ rfl), wkP_nilm, (wkP_refl _ rfl), (wkP_refl _ rfl), (wkP_refl _ rfl), (wkP_refl _ rfl), (wkP_refl _ rfl), (wkP_refl _ rfl), trivial⟩, trivial⟩ rfl rfl (fun h => absurd rfl h) rfl ?_
 refine go_run' ttok 5 rfl ?_
 refine go_nil nd ?_
 refine then_norm ?_
 refine awp_seq ?_
 refine awp_seq ?_
 refine awp_freezeM [1, 3, 5, 6, 7, 8, 9] [3, 6] [(10, some ⟨3, 1, ([2000]).map I⟩), (11, some ⟨3, 1, ([70]).map I⟩)] [(1, some 1), (3, some 3), (6, some 6)] [] [(1, some ⟨61, 7, [(.agg [(S (⟨#[112, 108, 97, 110, 107]⟩ : ByteArray)), (I 40), (I 100), (I 50), (I 100), (encL I ([2000])), (encL I ([70]))])]⟩)] rfl rfl rfl rfl rfl ⟨rfl, by decide, rfl, by decide, trivial⟩ trivial ⟨⟨_, rfl, rfl, rfl, .inr ⟨⟨⟨(wkP_id _ rfl), (wkP_id _ rfl), (wkP_id _ rfl), (wkP_id _ rfl), (wkP_id _ rfl), (wkP_lend rfl (by first | rfl | (simp [setI]; done) | omega | (dsimp only; omega) | (simp [setI]; omega)) (fun _ => rfl)), (wkP_lend rfl (by first | rfl | (simp [setI]; done) | omega | (dsimp only; omega) | (simp [setI]; omega)) (fun _ => rfl)), trivial⟩, trivial⟩, ⟨rfl, trivial⟩⟩⟩, trivial⟩ ?_
 refine awp_go hmix ?_
 refine go_run' ttok 3 rfl ?_
 refine go_gcase rfl rfl rfl (fun g6 => ?_) (fun g6 => ?_)
 ·rw [g6]
  replace h := of_bif_t h g6
  refine go_run' ttok 25 rfl ?_
  refine go_nil nd ?_
  refine then_norm ?_
  refine awp_cond rfl (fun tt0 => ?_) (fun h => by cases h)
  clear tt0
  refine awp_seq ?_
  refine awp_go hmix ?_
  refine go_run' ttok 1 rfl ?_
  refine go_nil nd ?_
  refine then_norm ?_
  refine awp_ret ?_
  refine then_ret ?_
  have e7 := of_some h
  subst e7
  refine ret_ret ?_
  refine fin0 ttok rfl rfl ?_
  exact (wkP_refl _ rfl)
 ·rw [g6]
  replace h := of_bif_f h g6
  refine go_run' ttok 4 rfl ?_
  refine go_gcase rfl rfl rfl (fun g8 => ?_) (fun g8 => ?_)
  ·rw [g8]
   replace h := of_bif_t h g8
   refine go_run' ttok 21 rfl ?_
   refine go_nil nd ?_
   refine then_norm ?_
   refine awp_cond rfl (fun tt0 => ?_) (fun h => by cases h)
   clear tt0
   refine awp_seq ?_
   refine awp_go hmix ?_
   refine go_run' ttok 1 rfl ?_
   refine go_nil nd ?_
   refine then_norm ?_
   refine awp_ret ?_
   refine then_ret ?_
   have e9 := of_some h
   subst e9
   refine ret_ret ?_
   refine fin0 ttok rfl rfl ?_
   exact (wkP_refl _ rfl)
  ·rw [g8]
   replace h := of_bif_f h g8
   refine go_run' ttok 4 rfl ?_
   refine go_gcase rfl rfl rfl (fun g10 => ?_) (fun g10 => ?_)
   ·rw [g10]
    replace h := of_bif_t h g10
    refine go_run' ttok 17 rfl ?_
    refine go_nil nd ?_
    refine then_norm ?_
    refine awp_cond rfl (fun tt0 => ?_) (fun h => by cases h)
    clear tt0
    refine awp_seq ?_
    refine awp_go hmix ?_
    refine go_run' ttok 1 rfl ?_
    refine go_nil nd ?_
    refine then_norm ?_
    refine awp_ret ?_
    refine then_ret ?_
    have e11 := of_some h
    subst e11
    refine ret_ret ?_
    refine fin0 ttok rfl rfl ?_
    exact (wkP_refl _ rfl)
   ·rw [g10]
    replace h := of_bif_f h g10
    refine go_run' ttok 2 rfl ?_
    obtain ⟨sv1, hv12, h⟩ := of_obind h
    refine go_call fn44 (board_Same_w nv dv.1 sv1 hv12) rfl rfl rfl rfl rfl rfl rfl ?_
    refine go_run' ttok 3 rfl ?_
    refine go_gcase rfl rfl rfl (fun g13 => ?_) (fun g13 => ?_)
    ·rw [g13]
     replace h := of_bif_t h g13
     refine go_run' ttok 11 rfl ?_
     refine go_nil nd ?_
     refine then_norm ?_
     refine awp_cond rfl (fun tt0 => ?_) (fun h => by cases h)
     clear tt0
     refine awp_seq ?_
     refine awp_go hmix ?_
     refine go_run' ttok 1 rfl ?_
     refine go_nil nd ?_
     refine then_norm ?_
     refine awp_ret ?_
     refine then_ret ?_
     have e14 := of_some h
     subst e14
     refine ret_ret ?_
     refine fin0 ttok rfl rfl ?_
     exact (wkP_refl _ rfl)
    ·rw [g13]
     replace h := of_bif_f h g13
     refine go_run' ttok 2 rfl ?_
     obtain ⟨sv2, hv15, h⟩ := of_obind h
     refine go_callL (L := []) fn44 (board_Same_w nv (⟨(⟨#[]⟩ : ByteArray), (⟨#[]⟩ : ByteArray), (⟨#[]⟩ : ByteArray), 0, (⟨(⟨0, 0⟩ : Sp), (⟨0, 0⟩ : Sp), (⟨0, 0⟩ : Sp)⟩ : Bx), 0, [], 0, (⟨0, 0, 0⟩ : TCell), false, 0⟩ : TBoard) sv2 hv15) rfl rfl rfl trivial ⟨(wkP_refl _ rfl), ⟨(wkP_refl _ rfl), (wkP_refl _ rfl), (wkP_refl _ rfl), (wkP_refl _ rfl), (wkP_refl _ rfl), (wkP_refl _ rfl), (wkP_refl _ rfl), (wkP_refl _ rfl), (wkP_refl _ rfl), (wkP_refl _ rfl), (wkP_refl _ rfl), wkP_nilm, (wkP_refl _ rfl), (wkP_refl _ rfl), (wkP_refl _ rfl), (wkP_refl _ rfl), (wkP_refl _ rfl), (wkP_refl _ rfl), trivial⟩, trivial⟩ rfl rfl (fun h => absurd rfl h) rfl ?_
     refine go_run' ttok 2 rfl ?_
     refine go_gcase rfl rfl rfl (fun g16 => ?_) (fun g16 => ?_)
     ·rw [g16]
      replace h := of_bif_t h g16
      refine go_run' ttok 6 rfl ?_
      refine go_nil nd ?_
      refine then_norm ?_
      refine awp_cond rfl (fun tt0 => ?_) (fun h => by cases h)
      clear tt0
      refine awp_seq ?_
      refine awp_go hmix ?_
      refine go_run' ttok 1 rfl ?_
      refine go_nil nd ?_
      refine then_norm ?_
      refine awp_ret ?_
      refine then_ret ?_
      have e17 := of_some h
      subst e17
      refine ret_ret ?_
      refine fin0 ttok rfl rfl ?_
      exact (wkP_refl _ rfl)
     ·rw [g16]
      replace h := of_bif_f h g16
      refine go_run' ttok 3 rfl ?_
      obtain ⟨cv, hv18, h⟩ := of_obind h
      refine go_callL (L := [(61, some ⟨61, 7, ([(⟨(⟨#[112, 108, 97, 110, 107]⟩ : ByteArray), 40, 100, 50, 100, [2000], [70]⟩ : TProduct)]).map encTProduct⟩)]) fn9 (board_Check_w nv ([(⟨(⟨#[112, 108, 97, 110, 107]⟩ : ByteArray), 40, 100, 50, 100, [2000], [70]⟩ : TProduct)]) cv hv18) rfl rfl rfl ⟨rfl, List.not_mem_nil, trivial⟩ ⟨(wkP_refl _ rfl), (wkP_lend rfl (by first | rfl | (simp [setI]; done) | omega | (dsimp only; omega) | (simp [setI]; omega)) (fun _ => rfl)), trivial⟩ rfl rfl (fun _ => rfl) rfl ?_
      refine go_run' ttok 2 rfl ?_
      refine go_nil nd ?_
      refine then_norm ?_
      refine awp_cond (b := (cv != 6)) rfl (fun c19 => ?_) (fun c19 => ?_)
      ·replace h := of_bif_t h c19
       refine awp_seq ?_
       refine awp_go hmix ?_
       refine go_run' ttok 1 rfl ?_
       refine go_nil nd ?_
       refine then_norm ?_
       refine awp_ret ?_
       refine then_ret ?_
       have e20 := of_some h
       subst e20
       refine ret_ret ?_
       refine fin0 ttok rfl rfl ?_
       exact (wkP_refl _ rfl)
      ·replace h := of_bif_f h c19
       refine awp_skip ?_
       refine then_norm ?_
       refine awp_seq ?_
       refine awp_go hmix ?_
       refine go_run' ttok 4 rfl ?_
       refine go_gcase rfl rfl rfl (fun g21 => ?_) (fun g21 => ?_)
       ·rw [g21]
        replace h := of_bif_t h g21
        refine go_run' ttok 5 rfl ?_
        refine go_gcase rfl rfl rfl (fun g22 => ?_) (fun g22 => ?_)
        ·rw [g22]
         replace h := of_bif_t h g22
         refine go_run' ttok 3 rfl ?_
         refine go_step rfl (as_eqAgg shTCell rfl eqT28_1 eqT28_2 (by decide) rfl rfl rfl rfl rfl) rfl rfl rfl ?_
         refine go_run' ttok 2 rfl ?_
         refine go_gcase rfl rfl rfl (fun g23 => ?_) (fun g23 => ?_)
         ·rw [g23]
          replace h := of_bif_t h g23
          refine go_run' ttok 1 rfl ?_
          obtain ⟨vv, hv24, h⟩ := of_obind h
          refine go_call fn32 (board_Volume_w nv vv hv24) rfl rfl rfl rfl rfl rfl rfl ?_
          refine go_run' ttok 3 rfl ?_
          refine go_gcase rfl rfl rfl (fun g25 => ?_) (fun g25 => ?_)
          ·rw [g25]
           replace h := of_bif_t h g25
           refine go_run' ttok 1 rfl ?_
           refine go_call fn45 (board_Length_w nv _ rfl) rfl rfl rfl rfl rfl rfl rfl ?_
           refine go_run' ttok 3 rfl ?_
           refine go_gcase rfl rfl rfl (fun g26 => ?_) (fun g26 => ?_)
           ·rw [g26]
            replace h := of_bif_t h g26
            refine go_run' ttok 5 rfl ?_
            refine go_gcase rfl rfl rfl (fun g27 => ?_) (fun g27 => ?_)
            ·rw [g27]
             replace h := of_bif_t h g27
             refine go_run' ttok 1 rfl ?_
             obtain ⟨c, hv28, h⟩ := of_obind h
             refine go_indexB ev1.1 3 c hv28 ttok rfl rfl rfl rfl rfl rfl rfl ?_
             refine go_run' ttok 3 rfl ?_
             refine go_nil nd ?_
             refine then_norm ?_
             refine awp_ret ?_
             have e29 := of_some h
             subst e29
             refine ret_ret ?_
             refine fin0 ttok rfl rfl ?_
             exact (wkP_refl _ rfl)
            ·rw [g27]
             replace h := of_bif_f h g27
             refine go_run' ttok 5 rfl ?_
             refine go_nil nd ?_
             refine then_norm ?_
             refine awp_ret ?_
             have e30 := of_some h
             subst e30
             refine ret_ret ?_
             refine fin0 ttok rfl rfl ?_
             exact (wkP_refl _ rfl)
           ·rw [g26]
            replace h := of_bif_f h g26
            refine go_run' ttok 10 rfl ?_
            refine go_nil nd ?_
            refine then_norm ?_
            refine awp_ret ?_
            have e31 := of_some h
            subst e31
            refine ret_ret ?_
            refine fin0 ttok rfl rfl ?_
            exact (wkP_refl _ rfl)
          ·rw [g25]
           replace h := of_bif_f h g25
           refine go_run' ttok 15 rfl ?_
           refine go_nil nd ?_
           refine then_norm ?_
           refine awp_ret ?_
           have e32 := of_some h
           subst e32
           refine ret_ret ?_
           refine fin0 ttok rfl rfl ?_
           exact (wkP_refl _ rfl)
         ·rw [g23]
          replace h := of_bif_f h g23
          refine go_run' ttok 20 rfl ?_
          refine go_nil nd ?_
          refine then_norm ?_
          refine awp_ret ?_
          have e33 := of_some h
          subst e33
          refine ret_ret ?_
          refine fin0 ttok rfl rfl ?_
          exact (wkP_refl _ rfl)
        ·rw [g22]
         replace h := of_bif_f h g22
         refine go_run' ttok 26 rfl ?_
         refine go_nil nd ?_
         refine then_norm ?_
         refine awp_ret ?_
         have e34 := of_some h
         subst e34
         refine ret_ret ?_
         refine fin0 ttok rfl rfl ?_
         exact (wkP_refl _ rfl)
       ·rw [g21]
        replace h := of_bif_f h g21
        refine go_run' ttok 31 rfl ?_
        refine go_nil nd ?_
        refine then_norm ?_
        refine awp_ret ?_
        have e35 := of_some h
        subst e35
        refine ret_ret ?_
        refine fin0 ttok rfl rfl ?_
        exact (wkP_refl _ rfl)
noncomputable def l30_awake_c (N : Nat) : Option Bool :=
 (Option.bind (l30_sample_c N) (fun sv => (Option.bind ((board_New_c N) (⟨#[66, 48, 48, 48, 48, 52, 50, 85]⟩ : ByteArray) (⟨#[]⟩ : ByteArray) (⟨(⟨#[112, 105, 110, 101]⟩ : ByteArray), 9000, 0, 0, 0, 0, 0, 0, 0, 0, 0, 0, 0⟩ : TSpecies) sv.Solid ([]) 0 (⟨(⟨0, 105⟩ : Sp), (⟨0, 42⟩ : Sp), (⟨0, 2000⟩ : Sp)⟩ : Bx)) (fun nv => (Option.bind ((board_Encode_c N) nv) (fun ev => (Option.bind ((board_Decode_c N) ev.1) (fun dv => (Option.bind ((board_Encode_c N) (⟨(⟨#[]⟩ : ByteArray), (⟨#[]⟩ : ByteArray), (⟨#[]⟩ : ByteArray), 0, (⟨(⟨0, 0⟩ : Sp), (⟨0, 0⟩ : Sp), (⟨0, 0⟩ : Sp)⟩ : Bx), 0, [], 0, (⟨0, 0, 0⟩ : TCell), false, 0⟩ : TBoard)) (fun ev1 => (bif (ev.2 != 0) then some false else (bif (dv.2 != 0) then some false else (bif (ev1.2 != 0) then some false else (Option.bind ((board_Same_c N) nv dv.1) (fun sv1 => (bif (!sv1) then some false else (Option.bind ((board_Same_c N) nv (⟨(⟨#[]⟩ : ByteArray), (⟨#[]⟩ : ByteArray), (⟨#[]⟩ : ByteArray), 0, (⟨(⟨0, 0⟩ : Sp), (⟨0, 0⟩ : Sp), (⟨0, 0⟩ : Sp)⟩ : Bx), 0, [], 0, (⟨0, 0, 0⟩ : TCell), false, 0⟩ : TBoard)) (fun sv2 => (bif sv2 then some false else (Option.bind ((board_Check_c N) nv ([(⟨(⟨#[112, 108, 97, 110, 107]⟩ : ByteArray), 40, 100, 50, 100, [2000], [70]⟩ : TProduct)])) (fun cv => (bif (cv != 6) then some false else (bif (nv.Volume == 8400000) then (bif (nv.Wane == 48) then (bif (eqV encTCell nv.Cell (⟨9000, 9000, 0⟩ : TCell)) then (Option.bind ((board_Volume_c N) nv) (fun vv => (bif (vv == 8820000) then (bif ((board_Length_g nv) == 2000) then (bif (((ev1.1.size : Nat) : Int) == 19) then (Option.bind (bytO ev1.1 3) (fun c => some (c == 14))) else some false) else some false) else some false))) else some false) else some false) else some false)))))))))))))))))))))))
theorem l30_awake_le (N : Nat) : OLe (l30_awake_c N) (l30_awake_g) := by
 unfold l30_awake_c l30_awake_g
 repeat' (first | exact ole_rfl | exact l30_sample_le _ | exact board_New_le _ _ _ _ _ _ _ _ | exact board_Encode_le _ _ | exact board_Decode_le _ _ | exact board_Same_le _ _ _ | exact board_Check_le _ _ _ | exact board_Volume_le _ _ | refine ole_bif ?_ ?_ | refine ole_bind ?_ (fun _ => ?_) | refine ole_let (fun _ => ?_) | refine ole_map ?_ | refine ole_elim (fun _ => ?_) (fun _ => ?_) | refine ole_loop (fun _ => ?_))
noncomputable def l30_BoardAccepted_g (m : Tsawmilllaw30_Made) (x : Tsawmilllaw30_Log) (c : (List TProduct)) : Option Bool :=
 (Option.bind (l30_Short_g x) (fun sv => (bif (!sv) then (Option.bind l30_awake_g (fun av => some av)) else (Option.bind (l19_Short_g c) (fun sv1 => (bif (!sv1) then (Option.bind l30_awake_g (fun av1 => some av1)) else (Option.bind (r02_Is_g m.Id 66) (fun iv => (bif (!iv) then (Option.bind l30_awake_g (fun av2 => some av2)) else (Option.bind (r02_Is_g m.Log 76) (fun iv1 => (bif (!iv1) then (Option.bind l30_awake_g (fun av3 => some av3)) else (Option.bind (r02_IsName_g m.Species.Name) (fun iv2 => (bif (!iv2) then (Option.bind l30_awake_g (fun av4 => some av4)) else (bif (decide (m.Species.Green < 0)) then (Option.bind l30_awake_g (fun av5 => some av5)) else (bif (decide (20000 < m.Species.Green)) then (Option.bind l30_awake_g (fun av6 => some av6)) else (bif (decide (m.Product < 0)) then (Option.bind l30_awake_g (fun av7 => some av7)) else (bif (decide (((c.length : Nat) : Int) ≤ m.Product)) then (Option.bind l30_awake_g (fun av8 => some av8)) else (Option.bind (l30_made_g m x) (fun mv => (Option.bind ((Option.bind (product_Check_g c) (fun cv => (bif (cv == 0) then (Option.bind (getI c m.Product) (fun e => (Option.bind (worth_Accept_g x.Solid x.Defects e m.Box) (fun av9 => some av9)))) else some false))) : Option Bool) (fun vv => (bif vv then (Option.bind (board_Check_g mv c) (fun cv1 => (bif (cv1 == 0) then (Option.bind (getI c m.Product) (fun e1 => (bif (decide (mv.Wane ≤ e1.Wane)) then (Option.bind l30_awake_g (fun av10 => some av10)) else some false))) else some false))) else (Option.bind l30_awake_g (fun av11 => some av11))))))))))))))))))))))))))
theorem l30_BoardAccepted_w (m : Tsawmilllaw30_Made) (x : Tsawmilllaw30_Log) (c : (List TProduct)) (r : Bool) (h : l30_BoardAccepted_g m x c = some r) : Holds Tryz.prog 6 [(encTsawmilllaw30_Made m), (encTsawmilllaw30_Log x), ((encL encTProduct) c)] [] (B r) [] := by
 unfold l30_BoardAccepted_g at h
 refine holds_fn Tryz.func6 rfl Tryz.ntmps6 rfl rfl rfl (fun lim => ?_)
 refine awp_seq ?_
 refine awp_go hmix ?_
 refine go_run' ttok 3 rfl ?_
 refine go_nil nd ?_
 refine then_norm ?_
 refine awp_seq ?_
 refine awp_seq ?_
 refine awp_go hmix ?_
 refine go_run' ttok 1 rfl ?_
 obtain ⟨sv, hv1, h⟩ := of_obind h
 refine go_call fn12 (l30_Short_w x sv hv1) rfl rfl rfl rfl rfl rfl rfl ?_
 refine go_run' ttok 2 rfl ?_
 refine go_gcase rfl rfl rfl (fun g2 => ?_) (fun g2 => ?_)
 ·rw [g2]
  replace h := of_bif_t h g2
  refine go_run' ttok 47 rfl ?_
  refine go_nil nd ?_
  refine then_norm ?_
  refine awp_cond rfl (fun tt0 => ?_) (fun h => by cases h)
  clear tt0
  refine awp_seq ?_
  refine awp_go hmix ?_
  obtain ⟨av, hv3, h⟩ := of_obind h
  refine go_call fn11 (l30_awake_w av hv3) rfl rfl rfl rfl rfl rfl rfl ?_
  refine go_run' ttok 1 rfl ?_
  refine go_nil nd ?_
  refine then_norm ?_
  refine awp_ret ?_
  refine then_ret ?_
  have e4 := of_some h
  subst e4
  refine ret_ret ?_
  refine fin0 ttok rfl rfl ?_
  exact (wkP_refl _ rfl)
 ·rw [g2]
  replace h := of_bif_f h g2
  refine go_run' ttok 1 rfl ?_
  obtain ⟨sv1, hv5, h⟩ := of_obind h
  refine go_call fn8 (l19_Short_w c sv1 hv5) rfl rfl rfl rfl rfl rfl rfl ?_
  refine go_run' ttok 3 rfl ?_
  refine go_gcase rfl rfl rfl (fun g6 => ?_) (fun g6 => ?_)
  ·rw [g6]
   replace h := of_bif_t h g6
   refine go_run' ttok 42 rfl ?_
   refine go_nil nd ?_
   refine then_norm ?_
   refine awp_cond rfl (fun tt0 => ?_) (fun h => by cases h)
   clear tt0
   refine awp_seq ?_
   refine awp_go hmix ?_
   obtain ⟨av1, hv7, h⟩ := of_obind h
   refine go_call fn11 (l30_awake_w av1 hv7) rfl rfl rfl rfl rfl rfl rfl ?_
   refine go_run' ttok 1 rfl ?_
   refine go_nil nd ?_
   refine then_norm ?_
   refine awp_ret ?_
   refine then_ret ?_
   have e8 := of_some h
   subst e8
   refine ret_ret ?_
   refine fin0 ttok rfl rfl ?_
   exact (wkP_refl _ rfl)
  ·rw [g6]
   replace h := of_bif_f h g6
   refine go_run' ttok 2 rfl ?_
   obtain ⟨iv, hv9, h⟩ := of_obind h
   refine go_call fn20 (r02_Is_w m.Id 66 iv hv9) rfl rfl rfl rfl rfl rfl rfl ?_
   refine go_run' ttok 3 rfl ?_
   refine go_gcase rfl rfl rfl (fun g10 => ?_) (fun g10 => ?_)
   ·rw [g10]
    replace h := of_bif_t h g10
    refine go_run' ttok 36 rfl ?_
    refine go_nil nd ?_
    refine then_norm ?_
    refine awp_cond rfl (fun tt0 => ?_) (fun h => by cases h)
    clear tt0
    refine awp_seq ?_
    refine awp_go hmix ?_
    obtain ⟨av2, hv11, h⟩ := of_obind h
    refine go_call fn11 (l30_awake_w av2 hv11) rfl rfl rfl rfl rfl rfl rfl ?_
    refine go_run' ttok 1 rfl ?_
    refine go_nil nd ?_
    refine then_norm ?_
    refine awp_ret ?_
    refine then_ret ?_
    have e12 := of_some h
    subst e12
    refine ret_ret ?_
    refine fin0 ttok rfl rfl ?_
    exact (wkP_refl _ rfl)
   ·rw [g10]
    replace h := of_bif_f h g10
    refine go_run' ttok 2 rfl ?_
    obtain ⟨iv1, hv13, h⟩ := of_obind h
    refine go_call fn20 (r02_Is_w m.Log 76 iv1 hv13) rfl rfl rfl rfl rfl rfl rfl ?_
    refine go_run' ttok 3 rfl ?_
    refine go_gcase rfl rfl rfl (fun g14 => ?_) (fun g14 => ?_)
    ·rw [g14]
     replace h := of_bif_t h g14
     refine go_run' ttok 30 rfl ?_
     refine go_nil nd ?_
     refine then_norm ?_
     refine awp_cond rfl (fun tt0 => ?_) (fun h => by cases h)
     clear tt0
     refine awp_seq ?_
     refine awp_go hmix ?_
     obtain ⟨av3, hv15, h⟩ := of_obind h
     refine go_call fn11 (l30_awake_w av3 hv15) rfl rfl rfl rfl rfl rfl rfl ?_
     refine go_run' ttok 1 rfl ?_
     refine go_nil nd ?_
     refine then_norm ?_
     refine awp_ret ?_
     refine then_ret ?_
     have e16 := of_some h
     subst e16
     refine ret_ret ?_
     refine fin0 ttok rfl rfl ?_
     exact (wkP_refl _ rfl)
    ·rw [g14]
     replace h := of_bif_f h g14
     refine go_run' ttok 3 rfl ?_
     obtain ⟨iv2, hv17, h⟩ := of_obind h
     refine go_call fn21 (r02_IsName_w m.Species.Name iv2 hv17) rfl rfl rfl rfl rfl rfl rfl ?_
     refine go_run' ttok 3 rfl ?_
     refine go_gcase rfl rfl rfl (fun g18 => ?_) (fun g18 => ?_)
     ·rw [g18]
      replace h := of_bif_t h g18
      refine go_run' ttok 23 rfl ?_
      refine go_nil nd ?_
      refine then_norm ?_
      refine awp_cond rfl (fun tt0 => ?_) (fun h => by cases h)
      clear tt0
      refine awp_seq ?_
      refine awp_go hmix ?_
      obtain ⟨av4, hv19, h⟩ := of_obind h
      refine go_call fn11 (l30_awake_w av4 hv19) rfl rfl rfl rfl rfl rfl rfl ?_
      refine go_run' ttok 1 rfl ?_
      refine go_nil nd ?_
      refine then_norm ?_
      refine awp_ret ?_
      refine then_ret ?_
      have e20 := of_some h
      subst e20
      refine ret_ret ?_
      refine fin0 ttok rfl rfl ?_
      exact (wkP_refl _ rfl)
     ·rw [g18]
      replace h := of_bif_f h g18
      refine go_run' ttok 6 rfl ?_
      refine go_gcase rfl rfl rfl (fun g21 => ?_) (fun g21 => ?_)
      ·rw [g21]
       replace h := of_bif_t h g21
       refine go_run' ttok 17 rfl ?_
       refine go_nil nd ?_
       refine then_norm ?_
       refine awp_cond rfl (fun tt0 => ?_) (fun h => by cases h)
       clear tt0
       refine awp_seq ?_
       refine awp_go hmix ?_
       obtain ⟨av5, hv22, h⟩ := of_obind h
       refine go_call fn11 (l30_awake_w av5 hv22) rfl rfl rfl rfl rfl rfl rfl ?_
       refine go_run' ttok 1 rfl ?_
       refine go_nil nd ?_
       refine then_norm ?_
       refine awp_ret ?_
       refine then_ret ?_
       have e23 := of_some h
       subst e23
       refine ret_ret ?_
       refine fin0 ttok rfl rfl ?_
       exact (wkP_refl _ rfl)
      ·rw [g21]
       replace h := of_bif_f h g21
       refine go_run' ttok 6 rfl ?_
       refine go_gcase rfl rfl rfl (fun g24 => ?_) (fun g24 => ?_)
       ·rw [g24]
        replace h := of_bif_t h g24
        refine go_run' ttok 11 rfl ?_
        refine go_nil nd ?_
        refine then_norm ?_
        refine awp_cond rfl (fun tt0 => ?_) (fun h => by cases h)
        clear tt0
        refine awp_seq ?_
        refine awp_go hmix ?_
        obtain ⟨av6, hv25, h⟩ := of_obind h
        refine go_call fn11 (l30_awake_w av6 hv25) rfl rfl rfl rfl rfl rfl rfl ?_
        refine go_run' ttok 1 rfl ?_
        refine go_nil nd ?_
        refine then_norm ?_
        refine awp_ret ?_
        refine then_ret ?_
        have e26 := of_some h
        subst e26
        refine ret_ret ?_
        refine fin0 ttok rfl rfl ?_
        exact (wkP_refl _ rfl)
       ·rw [g24]
        replace h := of_bif_f h g24
        refine go_run' ttok 5 rfl ?_
        refine go_gcase rfl rfl rfl (fun g27 => ?_) (fun g27 => ?_)
        ·rw [g27]
         replace h := of_bif_t h g27
         refine go_run' ttok 6 rfl ?_
         refine go_nil nd ?_
         refine then_norm ?_
         refine awp_cond rfl (fun tt0 => ?_) (fun h => by cases h)
         clear tt0
         refine awp_seq ?_
         refine awp_go hmix ?_
         obtain ⟨av7, hv28, h⟩ := of_obind h
         refine go_call fn11 (l30_awake_w av7 hv28) rfl rfl rfl rfl rfl rfl rfl ?_
         refine go_run' ttok 1 rfl ?_
         refine go_nil nd ?_
         refine then_norm ?_
         refine awp_ret ?_
         refine then_ret ?_
         have e29 := of_some h
         subst e29
         refine ret_ret ?_
         refine fin0 ttok rfl rfl ?_
         exact (wkP_refl _ rfl)
        ·rw [g27]
         replace h := of_bif_f h g27
         refine go_run' ttok 3 rfl ?_
         refine go_lenT encTProduct c ttok rfl rfl rfl rfl rfl rfl ?_
         refine go_run' ttok 2 rfl ?_
         refine go_nil nd ?_
         refine then_norm ?_
         refine awp_cond (b := (decide (((c.length : Nat) : Int) ≤ m.Product))) rfl (fun c30 => ?_) (fun c30 => ?_)
         ·replace h := of_bif_t h c30
          refine awp_seq ?_
          refine awp_go hmix ?_
          obtain ⟨av8, hv31, h⟩ := of_obind h
          refine go_call fn11 (l30_awake_w av8 hv31) rfl rfl rfl rfl rfl rfl rfl ?_
          refine go_run' ttok 1 rfl ?_
          refine go_nil nd ?_
          refine then_norm ?_
          refine awp_ret ?_
          refine then_ret ?_
          have e32 := of_some h
          subst e32
          refine ret_ret ?_
          refine fin0 ttok rfl rfl ?_
          exact (wkP_refl _ rfl)
         ·replace h := of_bif_f h c30
          refine awp_skip ?_
          refine then_norm ?_
          refine awp_seq ?_
          refine awp_go hmix ?_
          refine go_run' ttok 2 rfl ?_
          obtain ⟨mv, hv33, h⟩ := of_obind h
          refine go_call fn14 (l30_made_w m x mv hv33) rfl rfl rfl rfl rfl rfl rfl ?_
          refine go_run' ttok 2 rfl ?_
          refine go_nil nd ?_
          refine then_norm ?_
          refine awp_seq ?_
          obtain ⟨y, hx34, h⟩ := of_obind h
          refine awp_seqJ (X := Bool) [2, 3, 7] [3, 7] (fun w => [(79, (B w))]) (fun w => []) (fun w => w = y) rfl rfl ?_ ?_
          ·skip
           refine awp_go hmix ?_
           refine go_run' ttok 1 rfl ?_
           obtain ⟨cv, hv36, hx34⟩ := of_obind hx34
           refine go_call fn22 (product_Check_w c cv hv36) rfl rfl rfl rfl rfl rfl rfl ?_
           refine go_run' ttok 2 rfl ?_
           refine go_gcase rfl rfl rfl (fun g37 => ?_) (fun g37 => ?_)
           ·rw [g37]
            replace hx34 := of_bif_t hx34 g37
            refine go_run' ttok 7 rfl ?_
            obtain ⟨e, hv38, hx34⟩ := of_obind hx34
            refine go_indexT encTProduct c m.Product e hv38 ttok rfl rfl rfl rfl rfl rfl rfl rfl rfl ?_
            refine go_run' ttok 3 rfl ?_
            obtain ⟨av9, hv39, hx34⟩ := of_obind hx34
            refine go_call fn23 (worth_Accept_w x.Solid x.Defects e m.Box av9 hv39) rfl rfl rfl rfl rfl rfl rfl ?_
            refine go_run' ttok 1 rfl ?_
            refine go_nil (fun _ => by kernel_rfl) ?_
            have e40 := of_some hx34
            refine then_norm ⟨rfl, av9, [(3, some 3), (7, some 7)], ⟨rfl, rfl, rfl, rfl, rfl, ⟨wkP_id _ rfl, trivial⟩, trivial⟩, e40⟩
           ·rw [g37]
            replace hx34 := of_bif_f hx34 g37
            refine go_run' ttok 13 rfl ?_
            refine go_nil (fun _ => by kernel_rfl) ?_
            have e41 := of_some hx34
            refine then_norm ⟨rfl, false, [(3, some 3), (7, some 7)], ⟨rfl, rfl, rfl, rfl, rfl, ⟨wkP_id _ rfl, trivial⟩, trivial⟩, e41⟩
          ·intro vv hw35
           subst hw35
           refine awp_cond (b := vv) rfl (fun c42 => ?_) (fun c42 => ?_)
           ·replace h := of_bif_t h c42
            refine awp_seq ?_
            refine awp_go hmix ?_
            refine go_run' ttok 2 rfl ?_
            obtain ⟨cv1, hv43, h⟩ := of_obind h
            refine go_call fn9 (board_Check_w mv c cv1 hv43) rfl rfl rfl rfl rfl rfl rfl ?_
            refine go_run' ttok 2 rfl ?_
            refine go_gcase rfl rfl rfl (fun g44 => ?_) (fun g44 => ?_)
            ·rw [g44]
             replace h := of_bif_t h g44
             refine go_run' ttok 5 rfl ?_
             obtain ⟨e1, hv45, h⟩ := of_obind h
             refine go_indexT encTProduct c m.Product e1 hv45 ttok rfl rfl rfl rfl rfl rfl rfl rfl rfl ?_
             refine go_run' ttok 5 rfl ?_
             refine go_gcase rfl rfl rfl (fun g46 => ?_) (fun g46 => ?_)
             ·rw [g46]
              replace h := of_bif_t h g46
              obtain ⟨av10, hv47, h⟩ := of_obind h
              refine go_call fn11 (l30_awake_w av10 hv47) rfl rfl rfl rfl rfl rfl rfl ?_
              refine go_run' ttok 2 rfl ?_
              refine go_nil (fun _ => by kernel_rfl) ?_
              refine then_norm ?_
              refine awp_ret ?_
              refine then_ret ?_
              have e48 := of_some h
              subst e48
              refine ret_ret ?_
              refine fin0 ttok rfl rfl ?_
              exact (wkP_refl _ rfl)
             ·rw [g46]
              replace h := of_bif_f h g46
              refine go_run' ttok 3 rfl ?_
              refine go_nil (fun _ => by kernel_rfl) ?_
              refine then_norm ?_
              refine awp_ret ?_
              refine then_ret ?_
              have e49 := of_some h
              subst e49
              refine ret_ret ?_
              refine fin0 ttok rfl rfl ?_
              exact (wkP_refl _ rfl)
            ·rw [g44]
             replace h := of_bif_f h g44
             refine go_run' ttok 14 rfl ?_
             refine go_nil (fun _ => by kernel_rfl) ?_
             refine then_norm ?_
             refine awp_ret ?_
             refine then_ret ?_
             have e50 := of_some h
             subst e50
             refine ret_ret ?_
             refine fin0 ttok rfl rfl ?_
             exact (wkP_refl _ rfl)
           ·replace h := of_bif_f h c42
            refine awp_skip ?_
            refine then_norm ?_
            refine awp_seq ?_
            refine awp_go hmix ?_
            obtain ⟨av11, hv51, h⟩ := of_obind h
            refine go_call fn11 (l30_awake_w av11 hv51) rfl rfl rfl rfl rfl rfl rfl ?_
            refine go_run' ttok 1 rfl ?_
            refine go_nil nd ?_
            refine then_norm ?_
            refine awp_ret ?_
            have e52 := of_some h
            subst e52
            refine ret_ret ?_
            refine fin0 ttok rfl rfl ?_
            exact (wkP_refl _ rfl)
theorem aw30 : l30_awake_g = some true := l30_awake_le 300 true (by kernel_rfl)
end Go.Proofs.YtpoehckffpbfiaaGreat
