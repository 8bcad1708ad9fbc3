/- A1f: what functions of the program compute (written by mod.py). -/
import Derived.Test.YtcimnopodmnmmaaA1e
import Derived.KernelRfl
namespace Go.Proofs.Ytcimnopodmnmmaa
open Go Go.Ab
set_option linter.unusedSimpArgs false
set_option linter.unusedVariables false
set_option linter.unusedSectionVars false
set_option maxRecDepth 20000
set_option maxHeartbeats 1000000

noncomputable def l27_ResawBest_s1 (mv : ((List Int) × Int × Int)) (i : Int) : Option (Int ⊕ (Bool ⊕ Unit)) :=
 (bif (decide (i < ((mv.1.length : Nat) : Int))) then (Option.bind (getI mv.1 i) (fun e => (Option.bind (getI mv.1 (W64 (i - 1))) (fun e1 => (bif (decide (e < e1)) then some (Sum.inr (Sum.inl false)) else some (Sum.inl (W64 (i + 1)))))))) else some (Sum.inr (Sum.inr ())))
/-- sawmill/sawmilllaw27.ResawBest -/
noncomputable def l27_ResawBest_g (x : Tsawmilllaw27_Parts) (other : (List Int)) : Option Bool :=
 (bif (!(l27_light_g x)) then (Option.bind l27_awake_g (fun av => some av)) else (bif (decide (8 < ((other.length : Nat) : Int))) then (Option.bind l27_awake_g (fun av1 => some av1)) else (Option.bind (resaw_Most_g x.Thick x.Kerf x.Sizes x.Prices) (fun mv => (bif (mv.2.2 != 0) then (bif (((mv.1.length : Nat) : Int) == 0) then (bif (mv.2.1 == 0) then (Option.bind l27_awake_g (fun av2 => some av2)) else some false) else some false) else (Option.bind (l27_sum_g x mv.1) (fun sv => (Option.bind ((bif (!sv.2.2) then some (Sum.inl false) else (bif (sv.2.1 != mv.2.1) then some (Sum.inl false) else (bif (decide (8 < ((mv.1.length : Nat) : Int))) then some (Sum.inl false) else (bif (decide (0 < ((mv.1.length : Nat) : Int))) then (Option.bind (resaw_Check_g x.Thick x.Kerf sv.1) (fun cv => (bif (cv != 0) then some (Sum.inl false) else some (Sum.inr ())))) else some (Sum.inr ()))))) : Option (Bool ⊕ Unit)) (Sum.elim (fun q => some q) (fun _ => (Option.bind ((loopO (fun q => l27_ResawBest_s1 mv q) 1) : Option (Bool ⊕ Unit)) (Sum.elim (fun q => some q) (fun _ => (Option.bind (l27_sum_g x other) (fun sv1 => (bif (!sv1.2.2) then (Option.bind l27_awake_g (fun av3 => some av3)) else (Option.bind (resaw_Check_g x.Thick x.Kerf sv1.1) (fun cv1 => (bif (cv1 != 0) then (Option.bind l27_awake_g (fun av4 => some av4)) else (bif (decide (sv1.2.1 < mv.2.1)) then (Option.bind l27_awake_g (fun av5 => some av5)) else (bif (sv1.2.1 == mv.2.1) then (bif (decide (((mv.1.length : Nat) : Int) ≤ ((other.length : Nat) : Int))) then (Option.bind l27_awake_g (fun av6 => some av6)) else some false) else some false)))))))))))))))))))))
theorem l27_ResawBest_w (x : Tsawmilllaw27_Parts) (other : (List Int)) (r : Bool) (h : l27_ResawBest_g x other = some r) : Holds Try.prog 7 [(encTsawmilllaw27_Parts x), ((encL I) other)] [] (B r) [] := by
 unfold l27_ResawBest_g at h
 refine holds_fn Try.func7 rfl Try.ntmps7 rfl rfl rfl (fun lim => ?_)
 refine awp_seq (awp_go hmix (go_run' ttok 2 rfl (go_nil nd (then_norm (awp_seq (awp_seq (awp_go hmix (go_run' ttok 1 rfl ?_))))))))
 refine go_call fn18 (l27_light_w x _ rfl) rfl rfl rfl rfl rfl rfl rfl ?_
 refine go_run' ttok 2 rfl ?_
 refine go_gcase rfl rfl rfl (fun g1 => ?_) (fun g1 => ?_)
 ·rw [g1]
  replace h := of_bif_t h g1
  refine go_run' ttok 4 rfl (go_nil nd (then_norm ?_))
  refine awp_cond rfl (fun tt0 => ?_) (fun h => by cases h)
  clear tt0
  refine awp_seq (awp_go hmix ?_)
  obtain ⟨av, hv2, h⟩ := of_obind h
  refine go_call fn12 (l27_awake_w av hv2) rfl rfl rfl rfl rfl rfl rfl ?_
  refine go_run' ttok 1 rfl (go_nil nd (then_norm (awp_ret (then_ret ?_))))
  have e3 := of_some h
  subst e3
  refine ret_ret ?_
  refine fin0 ttok rfl rfl ?_
  exact (wkP_refl _ rfl)
 ·rw [g1]
  replace h := of_bif_f h g1
  refine go_run' ttok 1 rfl ?_
  refine go_lenT I other ttok rfl rfl rfl rfl rfl rfl ?_
  refine go_run' ttok 2 rfl (go_nil nd (then_norm ?_))
  refine awp_cond (b := (decide (8 < ((other.length : Nat) : Int)))) rfl (fun c4 => ?_) (fun c4 => ?_)
  ·replace h := of_bif_t h c4
   refine awp_seq (awp_go hmix ?_)
   obtain ⟨av1, hv5, h⟩ := of_obind h
   refine go_call fn12 (l27_awake_w av1 hv5) rfl rfl rfl rfl rfl rfl rfl ?_
   refine go_run' ttok 1 rfl (go_nil nd (then_norm (awp_ret (then_ret ?_))))
   have e6 := of_some h
   subst e6
   refine ret_ret ?_
   refine fin0 ttok rfl rfl ?_
   exact (wkP_refl _ rfl)
  ·replace h := of_bif_f h c4
   refine awp_skip (then_norm (awp_seq (awp_go hmix (go_run' ttok 8 rfl ?_))))
   obtain ⟨mv, hv7, h⟩ := of_obind h
   refine go_call fn19 (resaw_Most_w x.Thick x.Kerf x.Sizes x.Prices mv hv7) rfl rfl rfl rfl rfl rfl rfl ?_
   refine go_run' ttok 7 rfl (go_nil nd (then_norm (awp_seq (awp_seq (awp_go hmix (go_run' ttok 2 rfl (go_nil nd (then_norm ?_))))))))
   refine awp_cond (b := (mv.2.2 != 0)) rfl (fun c8 => ?_) (fun c8 => ?_)
   ·replace h := of_bif_t h c8
    refine awp_seq (awp_go hmix (go_run' ttok 1 rfl ?_))
    refine go_lenT I mv.1 ttok rfl rfl rfl rfl rfl rfl ?_
    refine go_run' ttok 2 rfl ?_
    refine go_gcase rfl rfl rfl (fun g9 => ?_) (fun g9 => ?_)
    ·rw [g9]
     replace h := of_bif_t h g9
     refine go_run' ttok 4 rfl ?_
     refine go_gcase rfl rfl rfl (fun g10 => ?_) (fun g10 => ?_)
     ·rw [g10]
      replace h := of_bif_t h g10
      obtain ⟨av2, hv11, h⟩ := of_obind h
      refine go_call fn12 (l27_awake_w av2 hv11) rfl rfl rfl rfl rfl rfl rfl ?_
      refine go_run' ttok 2 rfl (go_nil nd (then_norm (awp_ret (then_ret ?_))))
      have e12 := of_some h
      subst e12
      refine ret_ret ?_
      refine fin0 ttok rfl rfl ?_
      exact (wkP_refl _ rfl)
     ·rw [g10]
      replace h := of_bif_f h g10
      refine go_run' ttok 3 rfl (go_nil nd (then_norm (awp_ret (then_ret ?_))))
      have e13 := of_some h
      subst e13
      refine ret_ret ?_
      refine fin0 ttok rfl rfl ?_
      exact (wkP_refl _ rfl)
    ·rw [g9]
     replace h := of_bif_f h g9
     refine go_run' ttok 7 rfl (go_nil nd (then_norm (awp_ret (then_ret ?_))))
     have e14 := of_some h
     subst e14
     refine ret_ret ?_
     refine fin0 ttok rfl rfl ?_
     exact (wkP_refl _ rfl)
   ·replace h := of_bif_f h c8
    refine awp_skip (then_norm (awp_seq (awp_go hmix (go_run' ttok 2 rfl ?_))))
    obtain ⟨sv, hv15, h⟩ := of_obind h
    refine go_call fn27 (l27_sum_w x mv.1 sv hv15) rfl rfl rfl rfl rfl rfl rfl ?_
    refine go_run' ttok 7 rfl (go_nil nd (then_norm ?_))
    obtain ⟨y, hx16, h⟩ := of_obind h
    refine awp_seqJ (X := Unit) [1, 2, 5, 6] [2] (fun _ => []) (fun _ => []) (fun w => Sum.inr w = y) rfl rfl ?_ ?_
    ·skip
     refine awp_seq (awp_go hmix (go_run' ttok 3 rfl ?_))
     refine go_gcase rfl rfl rfl (fun g18 => ?_) (fun g18 => ?_)
     ·rw [g18]
      replace hx16 := of_bif_t hx16 g18
      refine go_run' ttok 23 rfl (go_nil nd (then_norm ?_))
      refine awp_cond rfl (fun tt0 => ?_) (fun h => by cases h)
      clear tt0
      refine awp_seq (awp_go hmix (go_run' ttok 1 rfl (go_nil nd (then_norm (awp_ret ?_)))))
      obtain ⟨t, hn19, hq⟩ := of_mapl' hx16
      subst hq
      have hq := of_inl h
      replace hq := of_some hq
      subst hq
      refine then_ret ?_
      have e20 := of_some hn19
      subst e20
      refine ret_ret ?_
      refine fin0 ttok rfl rfl ?_
      exact (wkP_refl _ rfl)
     ·rw [g18]
      replace hx16 := of_bif_f hx16 g18
      refine go_run' ttok 5 rfl ?_
      refine go_gcase rfl rfl rfl (fun g21 => ?_) (fun g21 => ?_)
      ·rw [g21]
       replace hx16 := of_bif_t hx16 g21
       refine go_run' ttok 18 rfl (go_nil nd (then_norm ?_))
       refine awp_cond rfl (fun tt0 => ?_) (fun h => by cases h)
       clear tt0
       refine awp_seq (awp_go hmix (go_run' ttok 1 rfl (go_nil nd (then_norm (awp_ret ?_)))))
       obtain ⟨t1, hn22, hq⟩ := of_mapl' hx16
       subst hq
       have hq := of_inl h
       replace hq := of_some hq
       subst hq
       refine then_ret ?_
       have e23 := of_some hn22
       subst e23
       refine ret_ret ?_
       refine fin0 ttok rfl rfl ?_
       exact (wkP_refl _ rfl)
      ·rw [g21]
       replace hx16 := of_bif_f hx16 g21
       refine go_run' ttok 1 rfl ?_
       refine go_lenT I mv.1 ttok rfl rfl rfl rfl rfl rfl ?_
       refine go_run' ttok 3 rfl ?_
       refine go_gcase rfl rfl rfl (fun g24 => ?_) (fun g24 => ?_)
       ·rw [g24]
        replace hx16 := of_bif_t hx16 g24
        refine go_run' ttok 13 rfl (go_nil nd (then_norm ?_))
        refine awp_cond rfl (fun tt0 => ?_) (fun h => by cases h)
        clear tt0
        refine awp_seq (awp_go hmix (go_run' ttok 1 rfl (go_nil nd (then_norm (awp_ret ?_)))))
        obtain ⟨t2, hn25, hq⟩ := of_mapl' hx16
        subst hq
        have hq := of_inl h
        replace hq := of_some hq
        subst hq
        refine then_ret ?_
        have e26 := of_some hn25
        subst e26
        refine ret_ret ?_
        refine fin0 ttok rfl rfl ?_
        exact (wkP_refl _ rfl)
       ·rw [g24]
        replace hx16 := of_bif_f hx16 g24
        refine go_run' ttok 1 rfl ?_
        refine go_lenT I mv.1 ttok rfl rfl rfl rfl rfl rfl ?_
        refine go_run' ttok 2 rfl ?_
        refine go_gcase rfl rfl rfl (fun g27 => ?_) (fun g27 => ?_)
        ·rw [g27]
         replace hx16 := of_bif_t hx16 g27
         refine go_run' ttok 5 rfl ?_
         obtain ⟨cv, hv28, hx16⟩ := of_obind hx16
         refine go_call fn15 (resaw_Check_w x.Thick x.Kerf sv.1 cv hv28) rfl rfl rfl rfl rfl rfl rfl ?_
         refine go_run' ttok 3 rfl (go_nil nd (then_norm ?_))
         refine awp_cond (b := (cv != 0)) rfl (fun c29 => ?_) (fun c29 => ?_)
         ·replace hx16 := of_bif_t hx16 c29
          refine awp_seq (awp_go hmix (go_run' ttok 1 rfl (go_nil nd (then_norm (awp_ret ?_)))))
          obtain ⟨t3, hn30, hq⟩ := of_mapl' hx16
          subst hq
          have hq := of_inl h
          replace hq := of_some hq
          subst hq
          refine then_ret ?_
          have e31 := of_some hn30
          subst e31
          refine ret_ret ?_
          refine fin0 ttok rfl rfl ?_
          exact (wkP_refl _ rfl)
         ·replace hx16 := of_bif_f hx16 c29
          refine awp_skip ?_
          have e32 := of_some hx16
          refine then_norm ⟨rfl, (), [(2, some 2)], ⟨rfl, rfl, rfl, rfl, rfl, trivial, trivial⟩, e32⟩
        ·rw [g27]
         replace hx16 := of_bif_f hx16 g27
         refine go_run' ttok 9 rfl (go_nil nd (then_norm ?_))
         refine awp_cond rfl (fun h => by cases h) (fun tt0 => ?_)
         clear tt0
         refine awp_skip ?_
         have e33 := of_some hx16
         refine then_norm ⟨rfl, (), [(2, some 2)], ⟨rfl, rfl, rfl, rfl, rfl, trivial, trivial⟩, e33⟩
    ·intro w hw17
     subst hw17
     replace h := of_inr h
     obtain ⟨y1, hx34, h⟩ := of_obind h
     refine awp_seqJ (X := Unit) [1, 2, 5, 6] [2] (fun _ => []) (fun _ => []) (fun w1 => Sum.inr w1 = y1) rfl rfl ?_ ?_
     ·skip
      refine awp_seq (awp_go hmix (go_run' ttok 1 rfl (go_nil nd (then_norm (awp_block ?_)))))
      refine awp_loopD (X := Int) (Y := (Bool ⊕ Unit)) [1, 2, 5, 6] [2] (fun q => [(11, (I q))]) (fun q => []) (fun q => l27_ResawBest_s1 mv q) 1 [(2, some 2)] hx34 ⟨rfl, rfl, rfl, rfl, rfl, ⟨wkP_id _ rfl, trivial⟩, trivial⟩ (fun i vR vz hz36 hk37 => ?_)
      change l27_ResawBest_s1 mv i = _ at hz36
      unfold l27_ResawBest_s1 at hz36
      refine awp_seq (awp_seq (awp_go hmix (go_run' ttok 2 rfl ?_)))
      refine go_lenT I mv.1 ttok rfl rfl rfl rfl rfl rfl ?_
      refine go_run' ttok 1 rfl (go_nil nd (then_norm ?_))
      refine awp_cond (b := (decide (i < ((mv.1.length : Nat) : Int)))) rfl (fun c38 => ?_) (fun c38 => ?_)
      ·replace hz36 := of_bif_t hz36 c38
       refine awp_skip (then_norm (awp_seq (awp_block (awp_seq (awp_go hmix (go_run' ttok 2 rfl ?_))))))
       obtain ⟨e, hv39, hz36⟩ := of_obind hz36
       refine go_indexT I mv.1 i e hv39 ttok rfl rfl rfl rfl rfl rfl rfl rfl rfl ?_
       refine go_run' ttok 4 rfl ?_
       obtain ⟨e1, hv40, hz36⟩ := of_obind hz36
       refine go_indexT I mv.1 (W64 (i - 1)) e1 hv40 ttok rfl rfl rfl rfl rfl rfl rfl rfl rfl ?_
       refine go_run' ttok 2 rfl ?_
       refine go_nil (fun _ => by kernel_rfl) ?_
       refine then_norm ?_
       refine awp_cond (b := (decide (e < e1))) rfl (fun c41 => ?_) (fun c41 => ?_)
       ·replace hz36 := of_bif_t hz36 c41
        refine awp_seq (awp_go hmix (go_run' ttok 1 rfl (go_nil nd (then_norm (awp_ret (block_ret (then_ret ?_)))))))
        obtain ⟨t4, hn42, hq⟩ := of_mapr' hz36
        subst hq
        have hq : t4 = _ := hk37
        subst hq
        refine then_ret (block_ret ?_)
        obtain ⟨t5, hn43, hq⟩ := of_mapl' hn42
        subst hq
        have hq := of_inl h
        replace hq := of_some hq
        subst hq
        refine then_ret ?_
        have e44 := of_some hn43
        subst e44
        refine ret_ret ?_
        refine fin0 ttok rfl rfl ?_
        exact (wkP_refl _ rfl)
       ·replace hz36 := of_bif_f hz36 c41
        refine awp_skip (block_norm (then_norm (awp_go hmix (go_run' ttok 3 rfl (go_nil nd ?_)))))
        have e45 := of_some hz36
        subst e45
        refine then_norm ⟨rfl, (W64 (i + 1)), [(2, some 2)], ⟨rfl, rfl, rfl, rfl, rfl, ⟨wkP_id _ rfl, trivial⟩, trivial⟩, hk37⟩
      ·replace hz36 := of_bif_f hz36 c38
       refine awp_exit (then_exit ?_)
       obtain ⟨t6, hn46, hq⟩ := of_mapr' hz36
       subst hq
       have hq : t6 = _ := hk37
       subst hq
       refine then_exit (block_here ?_)
       have e47 := of_some hn46
       refine then_norm ⟨rfl, (), [(2, some 2)], ⟨rfl, rfl, rfl, rfl, rfl, trivial, trivial⟩, e47⟩
     ·intro w1 hw35
      subst hw35
      replace h := of_inr h
      refine awp_seq (awp_go hmix (go_run' ttok 2 rfl ?_))
      obtain ⟨sv1, hv48, h⟩ := of_obind h
      refine go_call fn27 (l27_sum_w x other sv1 hv48) rfl rfl rfl rfl rfl rfl rfl ?_
      refine go_run' ttok 7 rfl (go_nil nd (then_norm (awp_seq (awp_seq (awp_go hmix (go_run' ttok 3 rfl ?_))))))
      refine go_gcase rfl rfl rfl (fun g49 => ?_) (fun g49 => ?_)
      ·rw [g49]
       replace h := of_bif_t h g49
       refine go_run' ttok 8 rfl (go_nil nd (then_norm ?_))
       refine awp_cond rfl (fun tt0 => ?_) (fun h => by cases h)
       clear tt0
       refine awp_seq (awp_go hmix ?_)
       obtain ⟨av3, hv50, h⟩ := of_obind h
       refine go_call fn12 (l27_awake_w av3 hv50) rfl rfl rfl rfl rfl rfl rfl ?_
       refine go_run' ttok 1 rfl (go_nil nd (then_norm (awp_ret (then_ret ?_))))
       have e51 := of_some h
       subst e51
       refine ret_ret ?_
       refine fin0 ttok rfl rfl ?_
       exact (wkP_refl _ rfl)
      ·rw [g49]
       replace h := of_bif_f h g49
       refine go_run' ttok 5 rfl ?_
       obtain ⟨cv1, hv52, h⟩ := of_obind h
       refine go_call fn15 (resaw_Check_w x.Thick x.Kerf sv1.1 cv1 hv52) rfl rfl rfl rfl rfl rfl rfl ?_
       refine go_run' ttok 2 rfl (go_nil nd (then_norm ?_))
       refine awp_cond (b := (cv1 != 0)) rfl (fun c53 => ?_) (fun c53 => ?_)
       ·replace h := of_bif_t h c53
        refine awp_seq (awp_go hmix ?_)
        obtain ⟨av4, hv54, h⟩ := of_obind h
        refine go_call fn12 (l27_awake_w av4 hv54) rfl rfl rfl rfl rfl rfl rfl ?_
        refine go_run' ttok 1 rfl (go_nil nd (then_norm (awp_ret (then_ret ?_))))
        have e55 := of_some h
        subst e55
        refine ret_ret ?_
        refine fin0 ttok rfl rfl ?_
        exact (wkP_refl _ rfl)
       ·replace h := of_bif_f h c53
        refine awp_skip (then_norm (awp_seq (awp_go hmix (go_run' ttok 4 rfl ?_))))
        refine go_gcase rfl rfl rfl (fun g56 => ?_) (fun g56 => ?_)
        ·rw [g56]
         replace h := of_bif_t h g56
         refine go_run' ttok 12 rfl ?_
         obtain ⟨av5, hv57, h⟩ := of_obind h
         refine go_call fn12 (l27_awake_w av5 hv57) rfl rfl rfl rfl rfl rfl rfl ?_
         refine go_run' ttok 2 rfl (go_nil nd (then_norm (awp_ret ?_)))
         have e58 := of_some h
         subst e58
         refine ret_ret ?_
         refine fin0 ttok rfl rfl ?_
         exact (wkP_refl _ rfl)
        ·rw [g56]
         replace h := of_bif_f h g56
         refine go_run' ttok 4 rfl ?_
         refine go_gcase rfl rfl rfl (fun g59 => ?_) (fun g59 => ?_)
         ·rw [g59]
          replace h := of_bif_t h g59
          refine go_run' ttok 1 rfl ?_
          refine go_lenT I other ttok rfl rfl rfl rfl rfl rfl ?_
          refine go_run' ttok 1 rfl ?_
          refine go_lenT I mv.1 ttok rfl rfl rfl rfl rfl rfl ?_
          refine go_run' ttok 4 rfl ?_
          refine go_gcase rfl rfl rfl (fun g60 => ?_) (fun g60 => ?_)
          ·rw [g60]
           replace h := of_bif_t h g60
           obtain ⟨av6, hv61, h⟩ := of_obind h
           refine go_call fn12 (l27_awake_w av6 hv61) rfl rfl rfl rfl rfl rfl rfl ?_
           refine go_run' ttok 2 rfl (go_nil nd (then_norm (awp_ret ?_)))
           have e62 := of_some h
           subst e62
           refine ret_ret ?_
           refine fin0 ttok rfl rfl ?_
           exact (wkP_refl _ rfl)
          ·rw [g60]
           replace h := of_bif_f h g60
           refine go_run' ttok 3 rfl (go_nil nd (then_norm (awp_ret ?_)))
           have e63 := of_some h
           subst e63
           refine ret_ret ?_
           refine fin0 ttok rfl rfl ?_
           exact (wkP_refl _ rfl)
         ·rw [g59]
          replace h := of_bif_f h g59
          refine go_run' ttok 11 rfl (go_nil nd (then_norm (awp_ret ?_)))
          have e64 := of_some h
          subst e64
          refine ret_ret ?_
          refine fin0 ttok rfl rfl ?_
          exact (wkP_refl _ rfl)

/-- sawmill/sawmilllaw27.ResawMore -/
noncomputable def l27_ResawMore_g (x : Tsawmilllaw27_Parts) (more : (Int × Int × Int × Int)) : Option Bool :=
 (bif (!(l27_light_g x)) then (Option.bind l27_awake_g (fun av => some av)) else (bif (decide (more.1 < 0)) then (Option.bind l27_awake_g (fun av1 => some av1)) else (bif (decide (100 < more.1)) then (Option.bind l27_awake_g (fun av2 => some av2)) else (bif (decide (more.2.1 < 0)) then (Option.bind l27_awake_g (fun av3 => some av3)) else (bif (decide (x.Kerf < more.2.1)) then (Option.bind l27_awake_g (fun av4 => some av4)) else (bif (decide (5 < ((x.Sizes.length : Nat) : Int))) then (Option.bind l27_awake_g (fun av5 => some av5)) else (Option.bind (resaw_Most_g x.Thick x.Kerf x.Sizes x.Prices) (fun mv => (bif (mv.2.2 != 0) then (bif (mv.2.1 == 0) then (Option.bind l27_awake_g (fun av6 => some av6)) else some false) else (Option.bind (resaw_Most_g (W64 (x.Thick + more.1)) x.Kerf x.Sizes x.Prices) (fun mv1 => (Option.bind (resaw_Most_g x.Thick more.2.1 x.Sizes x.Prices) (fun mv2 => (Option.bind (appO 8 ([] : List Int) x.Sizes) (fun l => (Option.bind (appO 8 l ([more.2.2.1])) (fun l1 => (Option.bind (appO 8 ([] : List Int) x.Prices) (fun l2 => (Option.bind (appO 8 l2 ([more.2.2.2])) (fun l3 => (Option.bind (resaw_Most_g x.Thick x.Kerf l1 l3) (fun mv3 => (bif (mv1.2.2 == 0) then (bif (decide (mv.2.1 ≤ mv1.2.1)) then (bif (mv2.2.2 == 0) then (bif (decide (mv.2.1 ≤ mv2.2.1)) then (bif (mv3.2.2 == 0) then (bif (decide (mv.2.1 ≤ mv3.2.1)) then (Option.bind l27_awake_g (fun av7 => some av7)) else (bif (mv3.2.2 == 9) then (Option.bind l27_awake_g (fun av8 => some av8)) else some false)) else (bif (mv3.2.2 == 9) then (Option.bind l27_awake_g (fun av9 => some av9)) else some false)) else some false) else some false) else some false) else some false))))))))))))))))))))))))
theorem l27_ResawMore_w (x : Tsawmilllaw27_Parts) (more : (Int × Int × Int × Int)) (r : Bool) (h : l27_ResawMore_g x more = some r) : Holds Try.prog 8 [(encTsawmilllaw27_Parts x), (.agg [(I more.1), (I more.2.1), (I more.2.2.1), (I more.2.2.2)])] [] (B r) [] := by
 unfold l27_ResawMore_g at h
 refine holds_fn Try.func8 rfl Try.ntmps8 rfl rfl rfl (fun lim => ?_)
 refine awp_seq (awp_go hmix (go_run' ttok 3 rfl (go_nil nd (then_norm (awp_seq (awp_seq (awp_go hmix (go_run' ttok 1 rfl ?_))))))))
 refine go_call fn18 (l27_light_w x _ rfl) rfl rfl rfl rfl rfl rfl rfl ?_
 refine go_run' ttok 2 rfl ?_
 refine go_gcase rfl rfl rfl (fun g1 => ?_) (fun g1 => ?_)
 ·rw [g1]
  replace h := of_bif_t h g1
  refine go_run' ttok 27 rfl (go_nil nd (then_norm ?_))
  refine awp_cond rfl (fun tt0 => ?_) (fun h => by cases h)
  clear tt0
  refine awp_seq (awp_go hmix ?_)
  obtain ⟨av, hv2, h⟩ := of_obind h
  refine go_call fn12 (l27_awake_w av hv2) rfl rfl rfl rfl rfl rfl rfl ?_
  refine go_run' ttok 1 rfl (go_nil nd (then_norm (awp_ret (then_ret ?_))))
  have e3 := of_some h
  subst e3
  refine ret_ret ?_
  refine fin0 ttok rfl rfl ?_
  exact (wkP_refl _ rfl)
 ·rw [g1]
  replace h := of_bif_f h g1
  refine go_run' ttok 5 rfl ?_
  refine go_gcase rfl rfl rfl (fun g4 => ?_) (fun g4 => ?_)
  ·rw [g4]
   replace h := of_bif_t h g4
   refine go_run' ttok 22 rfl (go_nil nd (then_norm ?_))
   refine awp_cond rfl (fun tt0 => ?_) (fun h => by cases h)
   clear tt0
   refine awp_seq (awp_go hmix ?_)
   obtain ⟨av1, hv5, h⟩ := of_obind h
   refine go_call fn12 (l27_awake_w av1 hv5) rfl rfl rfl rfl rfl rfl rfl ?_
   refine go_run' ttok 1 rfl (go_nil nd (then_norm (awp_ret (then_ret ?_))))
   have e6 := of_some h
   subst e6
   refine ret_ret ?_
   refine fin0 ttok rfl rfl ?_
   exact (wkP_refl _ rfl)
  ·rw [g4]
   replace h := of_bif_f h g4
   refine go_run' ttok 5 rfl ?_
   refine go_gcase rfl rfl rfl (fun g7 => ?_) (fun g7 => ?_)
   ·rw [g7]
    replace h := of_bif_t h g7
    refine go_run' ttok 17 rfl (go_nil nd (then_norm ?_))
    refine awp_cond rfl (fun tt0 => ?_) (fun h => by cases h)
    clear tt0
    refine awp_seq (awp_go hmix ?_)
    obtain ⟨av2, hv8, h⟩ := of_obind h
    refine go_call fn12 (l27_awake_w av2 hv8) rfl rfl rfl rfl rfl rfl rfl ?_
    refine go_run' ttok 1 rfl (go_nil nd (then_norm (awp_ret (then_ret ?_))))
    have e9 := of_some h
    subst e9
    refine ret_ret ?_
    refine fin0 ttok rfl rfl ?_
    exact (wkP_refl _ rfl)
   ·rw [g7]
    replace h := of_bif_f h g7
    refine go_run' ttok 5 rfl ?_
    refine go_gcase rfl rfl rfl (fun g10 => ?_) (fun g10 => ?_)
    ·rw [g10]
     replace h := of_bif_t h g10
     refine go_run' ttok 12 rfl (go_nil nd (then_norm ?_))
     refine awp_cond rfl (fun tt0 => ?_) (fun h => by cases h)
     clear tt0
     refine awp_seq (awp_go hmix ?_)
     obtain ⟨av3, hv11, h⟩ := of_obind h
     refine go_call fn12 (l27_awake_w av3 hv11) rfl rfl rfl rfl rfl rfl rfl ?_
     refine go_run' ttok 1 rfl (go_nil nd (then_norm (awp_ret (then_ret ?_))))
     have e12 := of_some h
     subst e12
     refine ret_ret ?_
     refine fin0 ttok rfl rfl ?_
     exact (wkP_refl _ rfl)
    ·rw [g10]
     replace h := of_bif_f h g10
     refine go_run' ttok 7 rfl ?_
     refine go_gcase rfl rfl rfl (fun g13 => ?_) (fun g13 => ?_)
     ·rw [g13]
      replace h := of_bif_t h g13
      refine go_run' ttok 5 rfl (go_nil nd (then_norm ?_))
      refine awp_cond rfl (fun tt0 => ?_) (fun h => by cases h)
      clear tt0
      refine awp_seq (awp_go hmix ?_)
      obtain ⟨av4, hv14, h⟩ := of_obind h
      refine go_call fn12 (l27_awake_w av4 hv14) rfl rfl rfl rfl rfl rfl rfl ?_
      refine go_run' ttok 1 rfl (go_nil nd (then_norm (awp_ret (then_ret ?_))))
      have e15 := of_some h
      subst e15
      refine ret_ret ?_
      refine fin0 ttok rfl rfl ?_
      exact (wkP_refl _ rfl)
     ·rw [g13]
      replace h := of_bif_f h g13
      refine go_run' ttok 2 rfl ?_
      refine go_lenT I x.Sizes ttok rfl rfl rfl rfl rfl rfl ?_
      refine go_run' ttok 2 rfl (go_nil nd (then_norm ?_))
      refine awp_cond (b := (decide (5 < ((x.Sizes.length : Nat) : Int)))) rfl (fun c16 => ?_) (fun c16 => ?_)
      ·replace h := of_bif_t h c16
       refine awp_seq (awp_go hmix ?_)
       obtain ⟨av5, hv17, h⟩ := of_obind h
       refine go_call fn12 (l27_awake_w av5 hv17) rfl rfl rfl rfl rfl rfl rfl ?_
       refine go_run' ttok 1 rfl (go_nil nd (then_norm (awp_ret (then_ret ?_))))
       have e18 := of_some h
       subst e18
       refine ret_ret ?_
       refine fin0 ttok rfl rfl ?_
       exact (wkP_refl _ rfl)
      ·replace h := of_bif_f h c16
       refine awp_skip (then_norm (awp_seq (awp_go hmix (go_run' ttok 8 rfl ?_))))
       obtain ⟨mv, hv19, h⟩ := of_obind h
       refine go_call fn19 (resaw_Most_w x.Thick x.Kerf x.Sizes x.Prices mv hv19) rfl rfl rfl rfl rfl rfl rfl ?_
       refine go_run' ttok 7 rfl (go_nil nd (then_norm (awp_seq (awp_seq (awp_go hmix (go_run' ttok 2 rfl (go_nil nd (then_norm ?_))))))))
       refine awp_cond (b := (mv.2.2 != 0)) rfl (fun c20 => ?_) (fun c20 => ?_)
       ·replace h := of_bif_t h c20
        refine awp_seq (awp_go hmix (go_run' ttok 3 rfl ?_))
        refine go_gcase rfl rfl rfl (fun g21 => ?_) (fun g21 => ?_)
        ·rw [g21]
         replace h := of_bif_t h g21
         obtain ⟨av6, hv22, h⟩ := of_obind h
         refine go_call fn12 (l27_awake_w av6 hv22) rfl rfl rfl rfl rfl rfl rfl ?_
         refine go_run' ttok 2 rfl (go_nil nd (then_norm (awp_ret (then_ret ?_))))
         have e23 := of_some h
         subst e23
         refine ret_ret ?_
         refine fin0 ttok rfl rfl ?_
         exact (wkP_refl _ rfl)
        ·rw [g21]
         replace h := of_bif_f h g21
         refine go_run' ttok 3 rfl (go_nil nd (then_norm (awp_ret (then_ret ?_))))
         have e24 := of_some h
         subst e24
         refine ret_ret ?_
         refine fin0 ttok rfl rfl ?_
         exact (wkP_refl _ rfl)
       ·replace h := of_bif_f h c20
        refine awp_skip (then_norm (awp_seq (awp_go hmix (go_run' ttok 11 rfl ?_))))
        obtain ⟨mv1, hv25, h⟩ := of_obind h
        refine go_call fn19 (resaw_Most_w (W64 (x.Thick + more.1)) x.Kerf x.Sizes x.Prices mv1 hv25) rfl rfl rfl rfl rfl rfl rfl ?_
        refine go_run' ttok 7 rfl (go_nil nd (then_norm (awp_seq (awp_go hmix (go_run' ttok 8 rfl ?_)))))
        obtain ⟨mv2, hv26, h⟩ := of_obind h
        refine go_call fn19 (resaw_Most_w x.Thick more.2.1 x.Sizes x.Prices mv2 hv26) rfl rfl rfl rfl rfl rfl rfl ?_
        refine go_run' ttok 7 rfl (go_nil nd (then_norm (awp_seq (awp_go hmix (go_run' ttok 7 rfl ?_)))))
        obtain ⟨l, hv27, h⟩ := of_obind h
        refine go_appTS I ([] : List Int) x.Sizes l hv27 (fun _ => rfl) (fun _ => rfl) (by first | rfl | (simp [setI]; done) | omega | (dsimp only; omega) | (simp [setI]; omega)) ttok rfl rfl rfl rfl rfl rfl rfl rfl rfl rfl rfl rfl rfl rfl rfl ?_
        refine go_run' ttok 3 rfl ?_
        obtain ⟨l1, hv28, h⟩ := of_obind h
        refine go_appT I l ([more.2.2.1]) l1 hv28 (fun _ => rfl) (by first | rfl | (simp [setI]; done) | omega | (dsimp only; omega) | (simp [setI]; omega)) (by first | rfl | (simp [setI]; done) | omega | (dsimp only; omega) | (simp [setI]; omega)) ttok rfl rfl rfl rfl rfl rfl rfl rfl rfl rfl rfl rfl rfl rfl rfl rfl rfl ?_
        refine go_run' ttok 3 rfl ?_
        obtain ⟨l2, hv29, h⟩ := of_obind h
        refine go_appTS I ([] : List Int) x.Prices l2 hv29 (fun _ => rfl) (fun _ => rfl) (by first | rfl | (simp [setI]; done) | omega | (dsimp only; omega) | (simp [setI]; omega)) ttok rfl rfl rfl rfl rfl rfl rfl rfl rfl rfl rfl rfl rfl rfl rfl ?_
        refine go_run' ttok 3 rfl ?_
        obtain ⟨l3, hv30, h⟩ := of_obind h
        refine go_appT I l2 ([more.2.2.2]) l3 hv30 (fun _ => rfl) (by first | rfl | (simp [setI]; done) | omega | (dsimp only; omega) | (simp [setI]; omega)) (by first | rfl | (simp [setI]; done) | omega | (dsimp only; omega) | (simp [setI]; omega)) ttok rfl rfl rfl rfl rfl rfl rfl rfl rfl rfl rfl rfl rfl rfl rfl rfl rfl ?_
        obtain ⟨mv3, hv31, h⟩ := of_obind h
        refine go_callM (.tup [.bot, (I mv3.2.1), (I mv3.2.2)]) [(110, some ⟨3, 1, l1.map I⟩), (118, some ⟨3, 1, l3.map I⟩)] [] [] [] fn19 (resaw_Most_w x.Thick x.Kerf l1 l3 mv3 hv31) rfl rfl rfl rfl rfl ⟨rfl, List.not_mem_nil, rfl, List.not_mem_nil, trivial⟩ ⟨(wkP_refl _ rfl), (wkP_refl _ rfl), (wkP_lend rfl (by first | rfl | (simp [setI]; done) | omega | (dsimp only; omega) | (simp [setI]; omega)) (fun _ => rfl)), (wkP_lend rfl (by first | rfl | (simp [setI]; done) | omega | (dsimp only; omega) | (simp [setI]; omega)) (fun _ => rfl)), trivial⟩ rfl rfl trivial rfl rfl trivial ⟨trivial, (wkP_refl _ rfl), (wkP_refl _ rfl), trivial⟩ rfl (fun _ => ⟨rfl, trivial⟩) rfl rfl rfl ?_
        refine go_run' ttok 7 rfl ?_
        refine go_nil (fun _ => by kernel_rfl) ?_
        refine then_norm (awp_seq (awp_go hmix (go_run' ttok 3 rfl ?_)))
        refine go_gcase rfl rfl rfl (fun g32 => ?_) (fun g32 => ?_)
        ·rw [g32]
         replace h := of_bif_t h g32
         refine go_run' ttok 5 rfl ?_
         refine go_gcase rfl rfl rfl (fun g33 => ?_) (fun g33 => ?_)
         ·rw [g33]
          replace h := of_bif_t h g33
          refine go_run' ttok 4 rfl ?_
          refine go_gcase rfl rfl rfl (fun g34 => ?_) (fun g34 => ?_)
          ·rw [g34]
           replace h := of_bif_t h g34
           refine go_run' ttok 5 rfl ?_
           refine go_gcase rfl rfl rfl (fun g35 => ?_) (fun g35 => ?_)
           ·rw [g35]
            replace h := of_bif_t h g35
            refine go_run' ttok 3 rfl ?_
            refine go_gcase rfl rfl rfl (fun g36 => ?_) (fun g36 => ?_)
            ·rw [g36]
             replace h := of_bif_t h g36
             refine go_run' ttok 5 rfl ?_
             refine go_gcase rfl rfl rfl (fun g37 => ?_) (fun g37 => ?_)
             ·rw [g37]
              replace h := of_bif_t h g37
              refine go_run' ttok 5 rfl ?_
              obtain ⟨av7, hv38, h⟩ := of_obind h
              refine go_call fn12 (l27_awake_w av7 hv38) rfl rfl rfl rfl rfl rfl rfl ?_
              refine go_run' ttok 2 rfl (go_nil nd (then_norm (awp_ret ?_)))
              have e39 := of_some h
              subst e39
              refine ret_ret ?_
              refine fin0 ttok rfl rfl ?_
              exact (wkP_refl _ rfl)
             ·rw [g37]
              replace h := of_bif_f h g37
              refine go_run' ttok 5 rfl ?_
              refine go_gcase rfl rfl rfl (fun g40 => ?_) (fun g40 => ?_)
              ·rw [g40]
               replace h := of_bif_t h g40
               obtain ⟨av8, hv41, h⟩ := of_obind h
               refine go_call fn12 (l27_awake_w av8 hv41) rfl rfl rfl rfl rfl rfl rfl ?_
               refine go_run' ttok 2 rfl (go_nil nd (then_norm (awp_ret ?_)))
               have e42 := of_some h
               subst e42
               refine ret_ret ?_
               refine fin0 ttok rfl rfl ?_
               exact (wkP_refl _ rfl)
              ·rw [g40]
               replace h := of_bif_f h g40
               refine go_run' ttok 3 rfl (go_nil nd (then_norm (awp_ret ?_)))
               have e43 := of_some h
               subst e43
               refine ret_ret ?_
               refine fin0 ttok rfl rfl ?_
               exact (wkP_refl _ rfl)
            ·rw [g36]
             replace h := of_bif_f h g36
             refine go_run' ttok 10 rfl ?_
             refine go_gcase rfl rfl rfl (fun g44 => ?_) (fun g44 => ?_)
             ·rw [g44]
              replace h := of_bif_t h g44
              obtain ⟨av9, hv45, h⟩ := of_obind h
              refine go_call fn12 (l27_awake_w av9 hv45) rfl rfl rfl rfl rfl rfl rfl ?_
              refine go_run' ttok 2 rfl (go_nil nd (then_norm (awp_ret ?_)))
              have e46 := of_some h
              subst e46
              refine ret_ret ?_
              refine fin0 ttok rfl rfl ?_
              exact (wkP_refl _ rfl)
             ·rw [g44]
              replace h := of_bif_f h g44
              refine go_run' ttok 3 rfl (go_nil nd (then_norm (awp_ret ?_)))
              have e47 := of_some h
              subst e47
              refine ret_ret ?_
              refine fin0 ttok rfl rfl ?_
              exact (wkP_refl _ rfl)
           ·rw [g35]
            replace h := of_bif_f h g35
            refine go_run' ttok 16 rfl (go_nil nd (then_norm (awp_ret ?_)))
            have e48 := of_some h
            subst e48
            refine ret_ret ?_
            refine fin0 ttok rfl rfl ?_
            exact (wkP_refl _ rfl)
          ·rw [g34]
           replace h := of_bif_f h g34
           refine go_run' ttok 21 rfl (go_nil nd (then_norm (awp_ret ?_)))
           have e49 := of_some h
           subst e49
           refine ret_ret ?_
           refine fin0 ttok rfl rfl ?_
           exact (wkP_refl _ rfl)
         ·rw [g33]
          replace h := of_bif_f h g33
          refine go_run' ttok 25 rfl (go_nil nd (then_norm (awp_ret ?_)))
          have e50 := of_some h
          subst e50
          refine ret_ret ?_
          refine fin0 ttok rfl rfl ?_
          exact (wkP_refl _ rfl)
        ·rw [g32]
         replace h := of_bif_f h g32
         refine go_run' ttok 30 rfl (go_nil nd (then_norm (awp_ret ?_)))
         have e51 := of_some h
         subst e51
         refine ret_ret ?_
         refine fin0 ttok rfl rfl ?_
         exact (wkP_refl _ rfl)

/-- sawmill/sawmilllaw27.inside -/
noncomputable def l27_inside_g (a : Bx) (b : Bx) : Bool :=
 (bif (decide (b.x.a ≤ a.x.a)) then (bif (decide (a.x.b ≤ b.x.b)) then (bif (decide (b.y.a ≤ a.y.a)) then (bif (decide (a.y.b ≤ b.y.b)) then (bif (decide (b.z.a ≤ a.z.a)) then (decide (a.z.b ≤ b.z.b)) else false) else false) else false) else false) else false)
theorem l27_inside_w (a : Bx) (b : Bx) (r : Bool) (h : l27_inside_g a b = r) : Holds Try.prog 28 [(encBx a), (encBx b)] [] (B r) [] := by
 unfold l27_inside_g at h
 refine holds_fn Try.func28 rfl Try.ntmps28 rfl rfl rfl (fun lim => ?_)
 refine awp_seq (awp_go hmix (go_run' ttok 3 rfl (go_nil nd (then_norm (awp_seq (awp_go hmix (go_run' ttok 8 rfl ?_)))))))
 refine go_gcase rfl rfl rfl (fun g1 => ?_) (fun g1 => ?_)
 ·rw [g1]
  replace h := of_bif_t h g1
  refine go_run' ttok 9 rfl ?_
  refine go_gcase rfl rfl rfl (fun g2 => ?_) (fun g2 => ?_)
  ·rw [g2]
   replace h := of_bif_t h g2
   refine go_run' ttok 9 rfl ?_
   refine go_gcase rfl rfl rfl (fun g3 => ?_) (fun g3 => ?_)
   ·rw [g3]
    replace h := of_bif_t h g3
    refine go_run' ttok 9 rfl ?_
    refine go_gcase rfl rfl rfl (fun g4 => ?_) (fun g4 => ?_)
    ·rw [g4]
     replace h := of_bif_t h g4
     refine go_run' ttok 9 rfl ?_
     refine go_gcase rfl rfl rfl (fun g5 => ?_) (fun g5 => ?_)
     ·rw [g5]
      replace h := of_bif_t h g5
      refine go_run' ttok 9 rfl (go_nil nd (then_norm (awp_ret ?_)))
      have e6 := h
      subst e6
      refine ret_ret ?_
      refine fin0 ttok rfl rfl ?_
      exact (wkP_refl _ rfl)
     ·rw [g5]
      replace h := of_bif_f h g5
      refine go_run' ttok 9 rfl (go_nil nd (then_norm (awp_ret ?_)))
      have e7 := h
      subst e7
      refine ret_ret ?_
      refine fin0 ttok rfl rfl ?_
      exact (wkP_refl _ rfl)
    ·rw [g4]
     replace h := of_bif_f h g4
     refine go_run' ttok 18 rfl (go_nil nd (then_norm (awp_ret ?_)))
     have e8 := h
     subst e8
     refine ret_ret ?_
     refine fin0 ttok rfl rfl ?_
     exact (wkP_refl _ rfl)
   ·rw [g3]
    replace h := of_bif_f h g3
    refine go_run' ttok 27 rfl (go_nil nd (then_norm (awp_ret ?_)))
    have e9 := h
    subst e9
    refine ret_ret ?_
    refine fin0 ttok rfl rfl ?_
    exact (wkP_refl _ rfl)
  ·rw [g2]
   replace h := of_bif_f h g2
   refine go_run' ttok 36 rfl (go_nil nd (then_norm (awp_ret ?_)))
   have e10 := h
   subst e10
   refine ret_ret ?_
   refine fin0 ttok rfl rfl ?_
   exact (wkP_refl _ rfl)
 ·rw [g1]
  replace h := of_bif_f h g1
  refine go_run' ttok 45 rfl (go_nil nd (then_norm (awp_ret ?_)))
  have e11 := h
  subst e11
  refine ret_ret ?_
  refine fin0 ttok rfl rfl ?_
  exact (wkP_refl _ rfl)

/-- sawmill/sawmilllaw27.volume -/
noncomputable def l27_volume_g (b : Bx) : Int :=
 (W64 ((W64 ((W64 (b.x.b - b.x.a)) * (W64 (b.y.b - b.y.a)))) * (W64 (b.z.b - b.z.a))))
theorem l27_volume_w (b : Bx) (r : Int) (h : l27_volume_g b = r) : Holds Try.prog 29 [(encBx b)] [] (I r) [] := by
 unfold l27_volume_g at h
 refine holds_fn Try.func29 rfl Try.ntmps29 rfl rfl rfl (fun lim => ?_)
 refine awp_seq (awp_go hmix (go_run' ttok 2 rfl (go_nil nd (then_norm (awp_seq (awp_go hmix (go_run' ttok 24 rfl (go_nil nd (then_norm (awp_ret ?_))))))))))
 have e1 := h
 subst e1
 refine ret_ret ?_
 refine fin0 ttok rfl rfl ?_
 exact (wkP_refl _ rfl)

/-- sawmill/sawmilllaw27.apart -/
noncomputable def l27_apart_g (a : Bx) (b : Bx) : Bool :=
 (bif (decide (a.x.b ≤ b.x.a)) then true else (bif (decide (b.x.b ≤ a.x.a)) then true else (bif (decide (a.y.b ≤ b.y.a)) then true else (bif (decide (b.y.b ≤ a.y.a)) then true else (bif (decide (a.z.b ≤ b.z.a)) then true else (decide (b.z.b ≤ a.z.a)))))))
theorem l27_apart_w (a : Bx) (b : Bx) (r : Bool) (h : l27_apart_g a b = r) : Holds Try.prog 30 [(encBx a), (encBx b)] [] (B r) [] := by
 unfold l27_apart_g at h
 refine holds_fn Try.func30 rfl Try.ntmps30 rfl rfl rfl (fun lim => ?_)
 refine awp_seq (awp_go hmix (go_run' ttok 3 rfl (go_nil nd (then_norm (awp_seq (awp_go hmix (go_run' ttok 8 rfl ?_)))))))
 refine go_gcase rfl rfl rfl (fun g1 => ?_) (fun g1 => ?_)
 ·rw [g1]
  replace h := of_bif_t h g1
  refine go_run' ttok 45 rfl (go_nil nd (then_norm (awp_ret ?_)))
  have e2 := h
  subst e2
  refine ret_ret ?_
  refine fin0 ttok rfl rfl ?_
  exact (wkP_refl _ rfl)
 ·rw [g1]
  replace h := of_bif_f h g1
  refine go_run' ttok 9 rfl ?_
  refine go_gcase rfl rfl rfl (fun g3 => ?_) (fun g3 => ?_)
  ·rw [g3]
   replace h := of_bif_t h g3
   refine go_run' ttok 36 rfl (go_nil nd (then_norm (awp_ret ?_)))
   have e4 := h
   subst e4
   refine ret_ret ?_
   refine fin0 ttok rfl rfl ?_
   exact (wkP_refl _ rfl)
  ·rw [g3]
   replace h := of_bif_f h g3
   refine go_run' ttok 9 rfl ?_
   refine go_gcase rfl rfl rfl (fun g5 => ?_) (fun g5 => ?_)
   ·rw [g5]
    replace h := of_bif_t h g5
    refine go_run' ttok 27 rfl (go_nil nd (then_norm (awp_ret ?_)))
    have e6 := h
    subst e6
    refine ret_ret ?_
    refine fin0 ttok rfl rfl ?_
    exact (wkP_refl _ rfl)
   ·rw [g5]
    replace h := of_bif_f h g5
    refine go_run' ttok 9 rfl ?_
    refine go_gcase rfl rfl rfl (fun g7 => ?_) (fun g7 => ?_)
    ·rw [g7]
     replace h := of_bif_t h g7
     refine go_run' ttok 18 rfl (go_nil nd (then_norm (awp_ret ?_)))
     have e8 := h
     subst e8
     refine ret_ret ?_
     refine fin0 ttok rfl rfl ?_
     exact (wkP_refl _ rfl)
    ·rw [g7]
     replace h := of_bif_f h g7
     refine go_run' ttok 9 rfl ?_
     refine go_gcase rfl rfl rfl (fun g9 => ?_) (fun g9 => ?_)
     ·rw [g9]
      replace h := of_bif_t h g9
      refine go_run' ttok 9 rfl (go_nil nd (then_norm (awp_ret ?_)))
      have e10 := h
      subst e10
      refine ret_ret ?_
      refine fin0 ttok rfl rfl ?_
      exact (wkP_refl _ rfl)
     ·rw [g9]
      replace h := of_bif_f h g9
      refine go_run' ttok 9 rfl (go_nil nd (then_norm (awp_ret ?_)))
      have e11 := h
      subst e11
      refine ret_ret ?_
      refine fin0 ttok rfl rfl ?_
      exact (wkP_refl _ rfl)

noncomputable def l27_ResawBoards_s1 (x : Tsawmilllaw27_Split) (ov : ((List TBoard) × (List Bx) × (List Bx) × Int)) (l1 : (List Bx)) (i : Int) : Option (((List Bx) × Int) ⊕ (Bool ⊕ (List Bx))) :=
 (bif (decide (i < ((ov.1.length : Nat) : Int))) then (Option.bind (getI ov.1 i) (fun e => (bif (!(bEq e.Id (⟨#[]⟩ : ByteArray))) then some (Sum.inr (Sum.inl false)) else (bif (!(bEq e.Log x.Board.Log)) then some (Sum.inr (Sum.inl false)) else (bif (!(bEq e.Species x.Board.Species)) then some (Sum.inr (Sum.inl false)) else (Option.bind (getI x.Parts i) (fun e1 => (bif (e.Product != e1) then some (Sum.inr (Sum.inl false)) else (bif (e.Volume != 0) then some (Sum.inr (Sum.inl false)) else (bif (e.Wane != x.Board.Wane) then some (Sum.inr (Sum.inl false)) else (bif (!(eqV encTCell e.Cell x.Board.Cell)) then some (Sum.inr (Sum.inl false)) else (bif (!(e.Dried == x.Board.Dried)) then some (Sum.inr (Sum.inl false)) else (bif (e.Grade != 0) then some (Sum.inr (Sum.inl false)) else (bif (!(eqV encSp e.Box.z x.Board.Box.z)) then some (Sum.inr (Sum.inl false)) else (Option.bind (appO 48 l1 ([e.Box])) (fun l2 => some (Sum.inl (l2, (W64 (i + 1)))))))))))))))))))) else some (Sum.inr (Sum.inr l1)))
noncomputable def l27_ResawBoards_s3 (l4 : (List Bx)) (i1 : Int) (k : Int) : Option (Int ⊕ ((((Int × Int) ⊕ (Bool ⊕ Int)) ⊕ Int) ⊕ Unit)) :=
 (bif (decide (k < i1)) then (Option.bind (getI l4 i1) (fun e4 => (Option.bind (getI l4 k) (fun e5 => (bif (!(l27_apart_g e4 e5)) then some (Sum.inr (Sum.inl (Sum.inl (Sum.inr (Sum.inl false))))) else some (Sum.inl (W64 (k + 1)))))))) else some (Sum.inr (Sum.inr ())))
noncomputable def l27_ResawBoards_s2 (x : Tsawmilllaw27_Split) (l4 : (List Bx)) (vsum1 : Int) (i1 : Int) : Option ((Int × Int) ⊕ (Bool ⊕ Int)) :=
 (bif (decide (i1 < ((l4.length : Nat) : Int))) then (Option.bind ((Option.bind (getI l4 i1) (fun e2 => (bif (!(l27_inside_g e2 x.Board.Box)) then some (Sum.inl (Sum.inr (Sum.inl false))) else (Option.bind (getI l4 i1) (fun e3 => (bif (decide ((l27_volume_g e3) ≤ 0)) then some (Sum.inl (Sum.inr (Sum.inl false))) else (Option.bind ((loopO (fun q => l27_ResawBoards_s3 l4 i1 q) 0) : Option ((((Int × Int) ⊕ (Bool ⊕ Int)) ⊕ Int) ⊕ Unit)) (Sum.elim (fun q => some q) (fun _ => (Option.bind (getI l4 i1) (fun e6 => some (Sum.inr (W64 (vsum1 + (l27_volume_g e6))))))))))))))) : Option (((Int × Int) ⊕ (Bool ⊕ Int)) ⊕ Int)) (Sum.elim (fun q => some q) (fun vsum2 => some (Sum.inl (vsum2, (W64 (i1 + 1))))))) else some (Sum.inr (Sum.inr vsum1)))
/-- sawmill/sawmilllaw27.ResawBoards -/
noncomputable def l27_ResawBoards_g (x : Tsawmilllaw27_Split) : Option Bool :=
 (Option.bind (l27_small_g x) (fun sv => (bif (!sv) then (Option.bind l27_awake_g (fun av => some av)) else (Option.bind (l27_of_g x) (fun ov => (bif (ov.2.2.2 != 0) then (bif (((ov.1.length : Nat) : Int) == 0) then (bif (((ov.2.1.length : Nat) : Int) == 0) then (bif (((ov.2.2.1.length : Nat) : Int) == 0) then (Option.bind l27_awake_g (fun av1 => some av1)) else some false) else some false) else some false) else (bif (((ov.1.length : Nat) : Int) != ((x.Parts.length : Nat) : Int)) then some false else (bif (decide (((ov.1.length : Nat) : Int) < ((ov.2.1.length : Nat) : Int))) then some false else (bif (decide (1 < ((ov.2.2.1.length : Nat) : Int))) then some false else (Option.bind ((loopO (fun q => l27_ResawBoards_s1 x ov q.1 q.2) ([], 0)) : Option (Bool ⊕ (List Bx))) (Sum.elim (fun q => some q) (fun l => (Option.bind (appO 48 l ov.2.1) (fun l3 => (Option.bind (appO 48 l3 ov.2.2.1) (fun l4 => (Option.bind ((loopO (fun q => l27_ResawBoards_s2 x l4 q.1 q.2) (0, 0)) : Option (Bool ⊕ Int)) (Sum.elim (fun q => some q) (fun vsum => (bif (vsum == (l27_volume_g x.Board.Box)) then (Option.bind l27_awake_g (fun av2 => some av2)) else some false))))))))))))))))))))
theorem l27_ResawBoards_w (x : Tsawmilllaw27_Split) (r : Bool) (h : l27_ResawBoards_g x = some r) : Holds Try.prog 9 [(encTsawmilllaw27_Split x)] [] (B r) [] := by
 unfold l27_ResawBoards_g at h
 refine holds_fn Try.func9 rfl Try.ntmps9 rfl rfl rfl (fun lim => ?_)
 refine awp_seq (awp_go hmix (go_run' ttok 2 rfl (go_nil nd (then_norm (awp_seq (awp_seq (awp_go hmix (go_run' ttok 1 rfl ?_))))))))
 obtain ⟨sv, hv1, h⟩ := of_obind h
 refine go_call fn22 (l27_small_w x sv hv1) rfl rfl rfl rfl rfl rfl rfl ?_
 refine go_run' ttok 1 rfl (go_nil nd (then_norm ?_))
 refine awp_cond (b := (!sv)) rfl (fun c2 => ?_) (fun c2 => ?_)
 ·replace h := of_bif_t h c2
  refine awp_seq (awp_go hmix ?_)
  obtain ⟨av, hv3, h⟩ := of_obind h
  refine go_call fn12 (l27_awake_w av hv3) rfl rfl rfl rfl rfl rfl rfl ?_
  refine go_run' ttok 1 rfl (go_nil nd (then_norm (awp_ret (then_ret ?_))))
  have e4 := of_some h
  subst e4
  refine ret_ret ?_
  refine fin0 ttok rfl rfl ?_
  exact (wkP_refl _ rfl)
 ·replace h := of_bif_f h c2
  refine awp_skip (then_norm (awp_seq (awp_go hmix (go_run' ttok 1 rfl ?_))))
  obtain ⟨ov, hv5, h⟩ := of_obind h
  refine go_call fn23 (l27_of_w x ov hv5) rfl rfl rfl rfl rfl rfl rfl ?_
  refine go_run' ttok 9 rfl (go_nil nd (then_norm (awp_seq (awp_seq (awp_go hmix (go_run' ttok 2 rfl (go_nil nd (then_norm ?_))))))))
  refine awp_cond (b := (ov.2.2.2 != 0)) rfl (fun c6 => ?_) (fun c6 => ?_)
  ·replace h := of_bif_t h c6
   refine awp_seq (awp_go hmix (go_run' ttok 1 rfl ?_))
   refine go_lenT encTBoard ov.1 ttok rfl rfl rfl rfl rfl rfl ?_
   refine go_run' ttok 2 rfl ?_
   refine go_gcase rfl rfl rfl (fun g7 => ?_) (fun g7 => ?_)
   ·rw [g7]
    replace h := of_bif_t h g7
    refine go_run' ttok 1 rfl ?_
    refine go_lenT encBx ov.2.1 ttok rfl rfl rfl rfl rfl rfl ?_
    refine go_run' ttok 3 rfl ?_
    refine go_gcase rfl rfl rfl (fun g8 => ?_) (fun g8 => ?_)
    ·rw [g8]
     replace h := of_bif_t h g8
     refine go_run' ttok 1 rfl ?_
     refine go_lenT encBx ov.2.2.1 ttok rfl rfl rfl rfl rfl rfl ?_
     refine go_run' ttok 3 rfl ?_
     refine go_gcase rfl rfl rfl (fun g9 => ?_) (fun g9 => ?_)
     ·rw [g9]
      replace h := of_bif_t h g9
      obtain ⟨av1, hv10, h⟩ := of_obind h
      refine go_call fn12 (l27_awake_w av1 hv10) rfl rfl rfl rfl rfl rfl rfl ?_
      refine go_run' ttok 2 rfl (go_nil nd (then_norm (awp_ret (then_ret ?_))))
      have e11 := of_some h
      subst e11
      refine ret_ret ?_
      refine fin0 ttok rfl rfl ?_
      exact (wkP_refl _ rfl)
     ·rw [g9]
      replace h := of_bif_f h g9
      refine go_run' ttok 3 rfl (go_nil nd (then_norm (awp_ret (then_ret ?_))))
      have e12 := of_some h
      subst e12
      refine ret_ret ?_
      refine fin0 ttok rfl rfl ?_
      exact (wkP_refl _ rfl)
    ·rw [g8]
     replace h := of_bif_f h g8
     refine go_run' ttok 8 rfl (go_nil nd (then_norm (awp_ret (then_ret ?_))))
     have e13 := of_some h
     subst e13
     refine ret_ret ?_
     refine fin0 ttok rfl rfl ?_
     exact (wkP_refl _ rfl)
   ·rw [g7]
    replace h := of_bif_f h g7
    refine go_run' ttok 13 rfl (go_nil nd (then_norm (awp_ret (then_ret ?_))))
    have e14 := of_some h
    subst e14
    refine ret_ret ?_
    refine fin0 ttok rfl rfl ?_
    exact (wkP_refl _ rfl)
  ·replace h := of_bif_f h c6
   refine awp_skip (then_norm (awp_seq (awp_seq (awp_go hmix (go_run' ttok 1 rfl ?_)))))
   refine go_lenT encTBoard ov.1 ttok rfl rfl rfl rfl rfl rfl ?_
   refine go_run' ttok 2 rfl ?_
   refine go_lenT I x.Parts ttok rfl rfl rfl rfl rfl rfl ?_
   refine go_run' ttok 2 rfl ?_
   refine go_gcase rfl rfl rfl (fun g15 => ?_) (fun g15 => ?_)
   ·rw [g15]
    replace h := of_bif_t h g15
    refine go_run' ttok 11 rfl (go_nil nd (then_norm ?_))
    refine awp_cond rfl (fun tt0 => ?_) (fun h => by cases h)
    clear tt0
    refine awp_seq (awp_go hmix (go_run' ttok 1 rfl (go_nil nd (then_norm (awp_ret (then_ret ?_))))))
    have e16 := of_some h
    subst e16
    refine ret_ret ?_
    refine fin0 ttok rfl rfl ?_
    exact (wkP_refl _ rfl)
   ·rw [g15]
    replace h := of_bif_f h g15
    refine go_run' ttok 1 rfl ?_
    refine go_lenT encBx ov.2.1 ttok rfl rfl rfl rfl rfl rfl ?_
    refine go_run' ttok 1 rfl ?_
    refine go_lenT encTBoard ov.1 ttok rfl rfl rfl rfl rfl rfl ?_
    refine go_run' ttok 3 rfl ?_
    refine go_gcase rfl rfl rfl (fun g17 => ?_) (fun g17 => ?_)
    ·rw [g17]
     replace h := of_bif_t h g17
     refine go_run' ttok 4 rfl (go_nil nd (then_norm ?_))
     refine awp_cond rfl (fun tt0 => ?_) (fun h => by cases h)
     clear tt0
     refine awp_seq (awp_go hmix (go_run' ttok 1 rfl (go_nil nd (then_norm (awp_ret (then_ret ?_))))))
     have e18 := of_some h
     subst e18
     refine ret_ret ?_
     refine fin0 ttok rfl rfl ?_
     exact (wkP_refl _ rfl)
    ·rw [g17]
     replace h := of_bif_f h g17
     refine go_run' ttok 1 rfl ?_
     refine go_lenT encBx ov.2.2.1 ttok rfl rfl rfl rfl rfl rfl ?_
     refine go_run' ttok 2 rfl (go_nil nd (then_norm ?_))
     refine awp_cond (b := (decide (1 < ((ov.2.2.1.length : Nat) : Int)))) rfl (fun c19 => ?_) (fun c19 => ?_)
     ·replace h := of_bif_t h c19
      refine awp_seq (awp_go hmix (go_run' ttok 1 rfl (go_nil nd (then_norm (awp_ret (then_ret ?_))))))
      have e20 := of_some h
      subst e20
      refine ret_ret ?_
      refine fin0 ttok rfl rfl ?_
      exact (wkP_refl _ rfl)
     ·replace h := of_bif_f h c19
      refine awp_skip (then_norm (awp_seq (awp_go hmix (go_run' ttok 1 rfl (go_nil nd (then_norm ?_))))))
      obtain ⟨y, hx21, h⟩ := of_obind h
      refine awp_seqJ (X := (List Bx)) [1, 4, 5] [1] (fun w => [(7, (.arr 7 0 w.length))]) (fun w => [(7, some ⟨39, 6, w.map encBx⟩)]) (fun w => Sum.inr w = y) rfl rfl ?_ ?_
      ·skip
       refine awp_seq (awp_go hmix (go_run' ttok 1 rfl (go_nil nd (then_norm (awp_block ?_)))))
       refine awp_loopD (X := ((List Bx) × Int)) (Y := (Bool ⊕ (List Bx))) [1, 3, 4, 5] [1] (fun q => [(7, (.arr 7 0 q.1.length)), (8, (I q.2))]) (fun q => [(7, some ⟨39, 6, q.1.map encBx⟩)]) (fun q => l27_ResawBoards_s1 x ov q.1 q.2) ([], 0) [(7, none), (1, some 1)] hx21 ⟨rfl, rfl, rfl, rfl, rfl, ⟨⟨rfl, rfl, (by first | rfl | (simp [setI]; done) | omega | (dsimp only; omega) | (simp [setI]; omega))⟩, wkP_id _ rfl, trivial⟩, ⟨rfl, trivial⟩⟩ (fun x1 vR vz hz23 hk24 => ?_)
       obtain ⟨l1, i⟩ := x1
       change l27_ResawBoards_s1 x ov l1 i = _ at hz23
       unfold l27_ResawBoards_s1 at hz23
       refine awp_seq (awp_seq (awp_go hmix (go_run' ttok 2 rfl ?_)))
       refine go_lenT encTBoard ov.1 ttok rfl rfl rfl rfl rfl rfl ?_
       refine go_run' ttok 1 rfl (go_nil nd (then_norm ?_))
       refine awp_cond (b := (decide (i < ((ov.1.length : Nat) : Int)))) rfl (fun c25 => ?_) (fun c25 => ?_)
       ·replace hz23 := of_bif_t hz23 c25
        refine awp_skip (then_norm (awp_seq (awp_block (awp_seq (awp_go hmix (go_run' ttok 2 rfl ?_))))))
        obtain ⟨e, hv26, hz23⟩ := of_obind hz23
        refine go_indexT encTBoard ov.1 i e hv26 ttok rfl rfl rfl rfl rfl rfl rfl rfl rfl ?_
        refine go_run' ttok 3 rfl (go_nil nd (then_norm (awp_seq (awp_seq (awp_go hmix (go_run' ttok 2 rfl ?_))))))
        refine go_neqS e.Id (⟨#[]⟩ : ByteArray) rfl rfl rfl rfl rfl ?_
        refine go_run' ttok 1 rfl ?_
        refine go_gcase rfl rfl rfl (fun g27 => ?_) (fun g27 => ?_)
        ·rw [g27]
         replace hz23 := of_bif_t hz23 g27
         refine go_run' ttok 69 rfl ?_
         refine go_nil (fun _ => by kernel_rfl) ?_
         refine then_norm ?_
         refine awp_cond rfl (fun tt0 => ?_) (fun h => by cases h)
         clear tt0
         refine awp_seq (awp_go hmix (go_run' ttok 1 rfl (go_nil nd (then_norm (awp_ret (then_ret (block_ret (then_ret ?_))))))))
         obtain ⟨t, hn28, hq⟩ := of_mapr' hz23
         subst hq
         have hq : t = _ := hk24
         subst hq
         refine then_ret (block_ret ?_)
         obtain ⟨t1, hn29, hq⟩ := of_mapl' hn28
         subst hq
         have hq := of_inl h
         replace hq := of_some hq
         subst hq
         refine then_ret ?_
         have e30 := of_some hn29
         subst e30
         refine ret_ret ?_
         refine fin0 ttok rfl rfl ?_
         exact (wkP_refl _ rfl)
        ·rw [g27]
         replace hz23 := of_bif_f hz23 g27
         refine go_run' ttok 5 rfl ?_
         refine go_neqS e.Log x.Board.Log rfl rfl rfl rfl rfl ?_
         refine go_run' ttok 2 rfl ?_
         refine go_gcase rfl rfl rfl (fun g31 => ?_) (fun g31 => ?_)
         ·rw [g31]
          replace hz23 := of_bif_t hz23 g31
          refine go_run' ttok 61 rfl ?_
          refine go_nil (fun _ => by kernel_rfl) ?_
          refine then_norm ?_
          refine awp_cond rfl (fun tt0 => ?_) (fun h => by cases h)
          clear tt0
          refine awp_seq (awp_go hmix (go_run' ttok 1 rfl (go_nil nd (then_norm (awp_ret (then_ret (block_ret (then_ret ?_))))))))
          obtain ⟨t2, hn32, hq⟩ := of_mapr' hz23
          subst hq
          have hq : t2 = _ := hk24
          subst hq
          refine then_ret (block_ret ?_)
          obtain ⟨t3, hn33, hq⟩ := of_mapl' hn32
          subst hq
          have hq := of_inl h
          replace hq := of_some hq
          subst hq
          refine then_ret ?_
          have e34 := of_some hn33
          subst e34
          refine ret_ret ?_
          refine fin0 ttok rfl rfl ?_
          exact (wkP_refl _ rfl)
         ·rw [g31]
          replace hz23 := of_bif_f hz23 g31
          refine go_run' ttok 5 rfl ?_
          refine go_neqS e.Species x.Board.Species rfl rfl rfl rfl rfl ?_
          refine go_run' ttok 2 rfl ?_
          refine go_gcase rfl rfl rfl (fun g35 => ?_) (fun g35 => ?_)
          ·rw [g35]
           replace hz23 := of_bif_t hz23 g35
           refine go_run' ttok 53 rfl ?_
           refine go_nil (fun _ => by kernel_rfl) ?_
           refine then_norm ?_
           refine awp_cond rfl (fun tt0 => ?_) (fun h => by cases h)
           clear tt0
           refine awp_seq (awp_go hmix (go_run' ttok 1 rfl (go_nil nd (then_norm (awp_ret (then_ret (block_ret (then_ret ?_))))))))
           obtain ⟨t4, hn36, hq⟩ := of_mapr' hz23
           subst hq
           have hq : t4 = _ := hk24
           subst hq
           refine then_ret (block_ret ?_)
           obtain ⟨t5, hn37, hq⟩ := of_mapl' hn36
           subst hq
           have hq := of_inl h
           replace hq := of_some hq
           subst hq
           refine then_ret ?_
           have e38 := of_some hn37
           subst e38
           refine ret_ret ?_
           refine fin0 ttok rfl rfl ?_
           exact (wkP_refl _ rfl)
          ·rw [g35]
           replace hz23 := of_bif_f hz23 g35
           refine go_run' ttok 5 rfl ?_
           obtain ⟨e1, hv39, hz23⟩ := of_obind hz23
           refine go_indexT I x.Parts i e1 hv39 ttok rfl rfl rfl rfl rfl rfl rfl rfl rfl ?_
           refine go_run' ttok 4 rfl ?_
           refine go_gcase rfl rfl rfl (fun g40 => ?_) (fun g40 => ?_)
           ·rw [g40]
            replace hz23 := of_bif_t hz23 g40
            refine go_run' ttok 43 rfl ?_
            refine go_nil (fun _ => by kernel_rfl) ?_
            refine then_norm ?_
            refine awp_cond rfl (fun tt0 => ?_) (fun h => by cases h)
            clear tt0
            refine awp_seq (awp_go hmix (go_run' ttok 1 rfl (go_nil nd (then_norm (awp_ret (then_ret (block_ret (then_ret ?_))))))))
            obtain ⟨t6, hn41, hq⟩ := of_mapr' hz23
            subst hq
            have hq : t6 = _ := hk24
            subst hq
            refine then_ret (block_ret ?_)
            obtain ⟨t7, hn42, hq⟩ := of_mapl' hn41
            subst hq
            have hq := of_inl h
            replace hq := of_some hq
            subst hq
            refine then_ret ?_
            have e43 := of_some hn42
            subst e43
            refine ret_ret ?_
            refine fin0 ttok rfl rfl ?_
            exact (wkP_refl _ rfl)
           ·rw [g40]
            replace hz23 := of_bif_f hz23 g40
            refine go_run' ttok 5 rfl ?_
            refine go_gcase rfl rfl rfl (fun g44 => ?_) (fun g44 => ?_)
            ·rw [g44]
             replace hz23 := of_bif_t hz23 g44
             refine go_run' ttok 38 rfl ?_
             refine go_nil (fun _ => by kernel_rfl) ?_
             refine then_norm ?_
             refine awp_cond rfl (fun tt0 => ?_) (fun h => by cases h)
             clear tt0
             refine awp_seq (awp_go hmix (go_run' ttok 1 rfl (go_nil nd (then_norm (awp_ret (then_ret (block_ret (then_ret ?_))))))))
             obtain ⟨t8, hn45, hq⟩ := of_mapr' hz23
             subst hq
             have hq : t8 = _ := hk24
             subst hq
             refine then_ret (block_ret ?_)
             obtain ⟨t9, hn46, hq⟩ := of_mapl' hn45
             subst hq
             have hq := of_inl h
             replace hq := of_some hq
             subst hq
             refine then_ret ?_
             have e47 := of_some hn46
             subst e47
             refine ret_ret ?_
             refine fin0 ttok rfl rfl ?_
             exact (wkP_refl _ rfl)
            ·rw [g44]
             replace hz23 := of_bif_f hz23 g44
             refine go_run' ttok 8 rfl ?_
             refine go_gcase rfl rfl rfl (fun g48 => ?_) (fun g48 => ?_)
             ·rw [g48]
              replace hz23 := of_bif_t hz23 g48
              refine go_run' ttok 30 rfl ?_
              refine go_nil (fun _ => by kernel_rfl) ?_
              refine then_norm ?_
              refine awp_cond rfl (fun tt0 => ?_) (fun h => by cases h)
              clear tt0
              refine awp_seq (awp_go hmix (go_run' ttok 1 rfl (go_nil nd (then_norm (awp_ret (then_ret (block_ret (then_ret ?_))))))))
              obtain ⟨t10, hn49, hq⟩ := of_mapr' hz23
              subst hq
              have hq : t10 = _ := hk24
              subst hq
              refine then_ret (block_ret ?_)
              obtain ⟨t11, hn50, hq⟩ := of_mapl' hn49
              subst hq
              have hq := of_inl h
              replace hq := of_some hq
              subst hq
              refine then_ret ?_
              have e51 := of_some hn50
              subst e51
              refine ret_ret ?_
              refine fin0 ttok rfl rfl ?_
              exact (wkP_refl _ rfl)
             ·rw [g48]
              replace hz23 := of_bif_f hz23 g48
              refine go_run' ttok 5 rfl ?_
              refine go_step rfl (as_neAgg shTCell rfl eqT42_1 eqT42_2 (by decide) rfl rfl rfl rfl rfl) rfl rfl rfl ?_
              refine go_run' ttok 2 rfl ?_
              refine go_gcase rfl rfl rfl (fun g52 => ?_) (fun g52 => ?_)
              ·rw [g52]
               replace hz23 := of_bif_t hz23 g52
               refine go_run' ttok 22 rfl ?_
               refine go_nil (fun _ => by kernel_rfl) ?_
               refine then_norm ?_
               refine awp_cond rfl (fun tt0 => ?_) (fun h => by cases h)
               clear tt0
               refine awp_seq (awp_go hmix (go_run' ttok 1 rfl (go_nil nd (then_norm (awp_ret (then_ret (block_ret (then_ret ?_))))))))
               obtain ⟨t12, hn53, hq⟩ := of_mapr' hz23
               subst hq
               have hq : t12 = _ := hk24
               subst hq
               refine then_ret (block_ret ?_)
               obtain ⟨t13, hn54, hq⟩ := of_mapl' hn53
               subst hq
               have hq := of_inl h
               replace hq := of_some hq
               subst hq
               refine then_ret ?_
               have e55 := of_some hn54
               subst e55
               refine ret_ret ?_
               refine fin0 ttok rfl rfl ?_
               exact (wkP_refl _ rfl)
              ·rw [g52]
               replace hz23 := of_bif_f hz23 g52
               refine go_run' ttok 5 rfl ?_
               refine go_step rfl (as_neBool rfl (ttok _ _ rfl) rfl rfl rfl) rfl rfl rfl ?_
               refine go_run' ttok 2 rfl ?_
               refine go_gcase rfl rfl rfl (fun g56 => ?_) (fun g56 => ?_)
               ·rw [g56]
                replace hz23 := of_bif_t hz23 g56
                refine go_run' ttok 14 rfl ?_
                refine go_nil (fun _ => by kernel_rfl) ?_
                refine then_norm ?_
                refine awp_cond rfl (fun tt0 => ?_) (fun h => by cases h)
                clear tt0
                refine awp_seq (awp_go hmix (go_run' ttok 1 rfl (go_nil nd (then_norm (awp_ret (then_ret (block_ret (then_ret ?_))))))))
                obtain ⟨t14, hn57, hq⟩ := of_mapr' hz23
                subst hq
                have hq : t14 = _ := hk24
                subst hq
                refine then_ret (block_ret ?_)
                obtain ⟨t15, hn58, hq⟩ := of_mapl' hn57
                subst hq
                have hq := of_inl h
                replace hq := of_some hq
                subst hq
                refine then_ret ?_
                have e59 := of_some hn58
                subst e59
                refine ret_ret ?_
                refine fin0 ttok rfl rfl ?_
                exact (wkP_refl _ rfl)
               ·rw [g56]
                replace hz23 := of_bif_f hz23 g56
                refine go_run' ttok 5 rfl ?_
                refine go_gcase rfl rfl rfl (fun g60 => ?_) (fun g60 => ?_)
                ·rw [g60]
                 replace hz23 := of_bif_t hz23 g60
                 refine go_run' ttok 9 rfl ?_
                 refine go_nil (fun _ => by kernel_rfl) ?_
                 refine then_norm ?_
                 refine awp_cond rfl (fun tt0 => ?_) (fun h => by cases h)
                 clear tt0
                 refine awp_seq (awp_go hmix (go_run' ttok 1 rfl (go_nil nd (then_norm (awp_ret (then_ret (block_ret (then_ret ?_))))))))
                 obtain ⟨t16, hn61, hq⟩ := of_mapr' hz23
                 subst hq
                 have hq : t16 = _ := hk24
                 subst hq
                 refine then_ret (block_ret ?_)
                 obtain ⟨t17, hn62, hq⟩ := of_mapl' hn61
                 subst hq
                 have hq := of_inl h
                 replace hq := of_some hq
                 subst hq
                 refine then_ret ?_
                 have e63 := of_some hn62
                 subst e63
                 refine ret_ret ?_
                 refine fin0 ttok rfl rfl ?_
                 exact (wkP_refl _ rfl)
                ·rw [g60]
                 replace hz23 := of_bif_f hz23 g60
                 refine go_run' ttok 7 rfl ?_
                 refine go_step rfl (as_neAgg shSp rfl eqT29_1 eqT29_2 (by decide) rfl rfl rfl rfl rfl) rfl rfl rfl ?_
                 refine go_run' ttok 1 rfl ?_
                 refine go_nil (fun _ => by kernel_rfl) ?_
                 refine then_norm ?_
                 refine awp_cond (b := (!(eqV encSp e.Box.z x.Board.Box.z))) rfl (fun c64 => ?_) (fun c64 => ?_)
                 ·replace hz23 := of_bif_t hz23 c64
                  refine awp_seq (awp_go hmix (go_run' ttok 1 rfl (go_nil nd (then_norm (awp_ret (then_ret (block_ret (then_ret ?_))))))))
                  obtain ⟨t18, hn65, hq⟩ := of_mapr' hz23
                  subst hq
                  have hq : t18 = _ := hk24
                  subst hq
                  refine then_ret (block_ret ?_)
                  obtain ⟨t19, hn66, hq⟩ := of_mapl' hn65
                  subst hq
                  have hq := of_inl h
                  replace hq := of_some hq
                  subst hq
                  refine then_ret ?_
                  have e67 := of_some hn66
                  subst e67
                  refine ret_ret ?_
                  refine fin0 ttok rfl rfl ?_
                  exact (wkP_refl _ rfl)
                 ·replace hz23 := of_bif_f hz23 c64
                  refine awp_skip (then_norm (awp_go hmix (go_run' ttok 4 rfl ?_)))
                  obtain ⟨l2, hv68, hz23⟩ := of_obind hz23
                  refine go_appT encBx l1 ([e.Box]) l2 hv68 (fun _ => rfl) (by first | rfl | (simp [setI]; done) | omega | (dsimp only; omega) | (simp [setI]; omega)) (by first | rfl | (simp [setI]; done) | omega | (dsimp only; omega) | (simp [setI]; omega)) ttok rfl rfl rfl rfl rfl rfl rfl rfl rfl rfl rfl rfl rfl rfl rfl rfl rfl ?_
                  refine go_run' ttok 1 rfl (go_nil nd (block_norm (then_norm (awp_go hmix (go_run' ttok 3 rfl (go_nil nd ?_))))))
                  have e69 := of_some hz23
                  subst e69
                  refine then_norm ⟨rfl, (l2, (W64 (i + 1))), [(7, some 147), (1, some 1)], ⟨rfl, rfl, rfl, rfl, rfl, ⟨⟨rfl, rfl, (by first | rfl | (simp [setI]; done) | omega | (dsimp only; omega) | (simp [setI]; omega))⟩, wkP_id _ rfl, trivial⟩, ⟨⟨_, rfl, rfl, rfl, wkX_map (enc := encBx) l2 (fun _ => rfl)⟩, trivial⟩⟩, hk24⟩
       ·replace hz23 := of_bif_f hz23 c25
        refine awp_exit (then_exit ?_)
        obtain ⟨t20, hn70, hq⟩ := of_mapr' hz23
        subst hq
        have hq : t20 = _ := hk24
        subst hq
        refine then_exit (block_here ?_)
        have e71 := of_some hn70
        refine then_norm ⟨rfl, l1, [(7, some 7), (1, some 1)], ⟨rfl, rfl, rfl, rfl, rfl, ⟨⟨rfl, rfl, (by first | rfl | (simp [setI]; done) | omega | (dsimp only; omega) | (simp [setI]; omega))⟩, trivial⟩, ⟨⟨_, rfl, rfl, rfl, wkX_map (enc := encBx) l1 (fun _ => rfl)⟩, trivial⟩⟩, e71⟩
      ·intro l hw22
       subst hw22
       replace h := of_inr h
       refine awp_seq (awp_go hmix (go_run' ttok 2 rfl ?_))
       obtain ⟨l3, hv72, h⟩ := of_obind h
       refine go_appTS encBx l ov.2.1 l3 hv72 (fun _ => rfl) (fun _ => rfl) (by first | rfl | (simp [setI]; done) | omega | (dsimp only; omega) | (simp [setI]; omega)) ttok rfl rfl rfl rfl rfl rfl rfl rfl rfl rfl rfl rfl rfl rfl rfl ?_
       refine go_run' ttok 1 rfl ?_
       obtain ⟨l4, hv73, h⟩ := of_obind h
       refine go_appTS encBx l3 ov.2.2.1 l4 hv73 (fun _ => rfl) (fun _ => rfl) (by first | rfl | (simp [setI]; done) | omega | (dsimp only; omega) | (simp [setI]; omega)) ttok rfl rfl rfl rfl rfl rfl rfl rfl rfl rfl rfl rfl rfl rfl rfl ?_
       refine go_run' ttok 1 rfl (go_nil nd (then_norm (awp_seq (awp_go hmix (go_run' ttok 1 rfl (go_nil nd (then_norm ?_)))))))
       obtain ⟨y1, hx74, h⟩ := of_obind h
       refine awp_seqJ (X := Int) [1] [1] (fun w1 => [(10, (I w1))]) (fun w1 => []) (fun w1 => Sum.inr w1 = y1) rfl rfl ?_ ?_
       ·skip
        refine awp_seq (awp_go hmix (go_run' ttok 1 rfl (go_nil nd (then_norm (awp_block ?_)))))
        refine awp_loopD (X := (Int × Int)) (Y := (Bool ⊕ Int)) [1] [1] (fun q => [(10, (I q.1)), (11, (I q.2)), (7, (.arr 152 0 l4.length))]) (fun q => [(152, some ⟨39, 6, l4.map encBx⟩)]) (fun q => l27_ResawBoards_s2 x l4 q.1 q.2) (0, 0) [(152, some 152), (1, some 1)] hx74 ⟨rfl, rfl, rfl, rfl, rfl, ⟨wkP_id _ rfl, wkP_id _ rfl, ⟨rfl, rfl, (by first | rfl | (simp [setI]; done) | omega | (dsimp only; omega) | (simp [setI]; omega))⟩, trivial⟩, ⟨⟨_, rfl, rfl, rfl, wkX_map (enc := encBx) l4 (fun _ => rfl)⟩, trivial⟩⟩ (fun x2 vR1 vz1 hz76 hk77 => ?_)
        obtain ⟨vsum1, i1⟩ := x2
        change l27_ResawBoards_s2 x l4 vsum1 i1 = _ at hz76
        unfold l27_ResawBoards_s2 at hz76
        refine awp_seq (awp_seq (awp_go hmix (go_run' ttok 4 rfl (go_nil nd (then_norm ?_)))))
        refine awp_cond (b := (decide (i1 < ((l4.length : Nat) : Int)))) rfl (fun c78 => ?_) (fun c78 => ?_)
        ·replace hz76 := of_bif_t hz76 c78
         refine awp_skip (then_norm ?_)
         obtain ⟨y2, hx79, hz76⟩ := of_obind hz76
         refine awp_seqJ (X := Int) [1, 11] [1] (fun w2 => [(7, (.arr 152 0 l4.length)), (10, (I w2))]) (fun w2 => [(152, some ⟨39, 6, l4.map encBx⟩)]) (fun w2 => Sum.inr w2 = y2) rfl rfl ?_ ?_
         ·skip
          refine awp_block (awp_seq (awp_seq (awp_go hmix (go_run' ttok 2 rfl ?_))))
          obtain ⟨e2, hv81, hx79⟩ := of_obind hx79
          refine go_indexAT encBx l4 i1 e2 hv81 (by first | rfl | (simp [setI]; done) | omega | (dsimp only; omega) | (simp [setI]; omega)) ttok rfl rfl rfl rfl rfl rfl rfl rfl rfl rfl ?_
          refine go_loadT encBx l4 i1 e2 _ hv81 ttok rfl rfl rfl rfl rfl rfl rfl ?_
          refine go_run' ttok 3 rfl ?_
          refine go_call fn28 (l27_inside_w e2 x.Board.Box _ rfl) rfl rfl rfl rfl rfl rfl rfl ?_
          refine go_run' ttok 2 rfl ?_
          refine go_gcase rfl rfl rfl (fun g82 => ?_) (fun g82 => ?_)
          ·rw [g82]
           replace hx79 := of_bif_t hx79 g82
           refine go_run' ttok 7 rfl ?_
           refine go_nil (fun _ => by kernel_rfl) ?_
           refine then_norm ?_
           refine awp_cond rfl (fun tt0 => ?_) (fun h => by cases h)
           clear tt0
           refine awp_seq (awp_go hmix (go_run' ttok 1 rfl (go_nil nd (then_norm (awp_ret (then_ret (block_ret ?_)))))))
           obtain ⟨t21, hn83, hq⟩ := of_mapl' hx79
           subst hq
           have hq := of_inl hz76
           replace hq := of_some hq
           subst hq
           refine then_ret ?_
           obtain ⟨t22, hn84, hq⟩ := of_mapr' hn83
           subst hq
           have hq : t22 = _ := hk77
           subst hq
           refine then_ret (block_ret ?_)
           obtain ⟨t23, hn85, hq⟩ := of_mapl' hn84
           subst hq
           have hq := of_inl h
           replace hq := of_some hq
           subst hq
           refine then_ret ?_
           have e86 := of_some hn85
           subst e86
           refine ret_ret ?_
           refine fin0 ttok rfl rfl ?_
           exact (wkP_refl _ rfl)
          ·rw [g82]
           replace hx79 := of_bif_f hx79 g82
           refine go_run' ttok 2 rfl ?_
           obtain ⟨e3, hv87, hx79⟩ := of_obind hx79
           refine go_indexAT encBx l4 i1 e3 hv87 (by first | rfl | (simp [setI]; done) | omega | (dsimp only; omega) | (simp [setI]; omega)) ttok rfl rfl rfl rfl rfl rfl rfl rfl rfl rfl ?_
           refine go_loadT encBx l4 i1 e3 _ hv87 ttok rfl rfl rfl rfl rfl rfl rfl ?_
           refine go_call fn29 (l27_volume_w e3 _ rfl) rfl rfl rfl rfl rfl rfl rfl ?_
           refine go_run' ttok 2 rfl ?_
           refine go_nil (fun _ => by kernel_rfl) ?_
           refine then_norm ?_
           refine awp_cond (b := (decide ((l27_volume_g e3) ≤ 0))) rfl (fun c88 => ?_) (fun c88 => ?_)
           ·replace hx79 := of_bif_t hx79 c88
            refine awp_seq (awp_go hmix (go_run' ttok 1 rfl (go_nil nd (then_norm (awp_ret (then_ret (block_ret ?_)))))))
            obtain ⟨t24, hn89, hq⟩ := of_mapl' hx79
            subst hq
            have hq := of_inl hz76
            replace hq := of_some hq
            subst hq
            refine then_ret ?_
            obtain ⟨t25, hn90, hq⟩ := of_mapr' hn89
            subst hq
            have hq : t25 = _ := hk77
            subst hq
            refine then_ret (block_ret ?_)
            obtain ⟨t26, hn91, hq⟩ := of_mapl' hn90
            subst hq
            have hq := of_inl h
            replace hq := of_some hq
            subst hq
            refine then_ret ?_
            have e92 := of_some hn91
            subst e92
            refine ret_ret ?_
            refine fin0 ttok rfl rfl ?_
            exact (wkP_refl _ rfl)
           ·replace hx79 := of_bif_f hx79 c88
            refine awp_skip (then_norm ?_)
            obtain ⟨y3, hx93, hx79⟩ := of_obind hx79
            refine awp_seqJ (X := Unit) [1, 10, 11] [1] (fun _ => [(7, (.arr 152 0 l4.length))]) (fun _ => [(152, some ⟨39, 6, l4.map encBx⟩)]) (fun w3 => Sum.inr w3 = y3) rfl rfl ?_ ?_
            ·skip
             refine awp_seq (awp_go hmix (go_run' ttok 1 rfl (go_nil nd (then_norm (awp_block ?_)))))
             refine awp_loopD (X := Int) (Y := ((((Int × Int) ⊕ (Bool ⊕ Int)) ⊕ Int) ⊕ Unit)) [1, 10, 11] [1] (fun q => [(12, (I q)), (7, (.arr 152 0 l4.length))]) (fun q => [(152, some ⟨39, 6, l4.map encBx⟩)]) (fun q => l27_ResawBoards_s3 l4 i1 q) 0 [(152, some 152), (1, some 1)] hx93 ⟨rfl, rfl, rfl, rfl, rfl, ⟨wkP_id _ rfl, ⟨rfl, rfl, (by first | rfl | (simp [setI]; done) | omega | (dsimp only; omega) | (simp [setI]; omega))⟩, trivial⟩, ⟨⟨_, rfl, rfl, rfl, wkX_map (enc := encBx) l4 (fun _ => rfl)⟩, trivial⟩⟩ (fun k vR2 vz2 hz95 hk96 => ?_)
             change l27_ResawBoards_s3 l4 i1 k = _ at hz95
             unfold l27_ResawBoards_s3 at hz95
             refine awp_seq (awp_seq (awp_go hmix (go_run' ttok 3 rfl (go_nil nd (then_norm ?_)))))
             refine awp_cond (b := (decide (k < i1))) rfl (fun c97 => ?_) (fun c97 => ?_)
             ·replace hz95 := of_bif_t hz95 c97
              refine awp_skip (then_norm (awp_seq (awp_block (awp_seq (awp_go hmix (go_run' ttok 2 rfl ?_))))))
              obtain ⟨e4, hv98, hz95⟩ := of_obind hz95
              refine go_indexAT encBx l4 i1 e4 hv98 (by first | rfl | (simp [setI]; done) | omega | (dsimp only; omega) | (simp [setI]; omega)) ttok rfl rfl rfl rfl rfl rfl rfl rfl rfl rfl ?_
              refine go_loadT encBx l4 i1 e4 _ hv98 ttok rfl rfl rfl rfl rfl rfl rfl ?_
              refine go_run' ttok 2 rfl ?_
              obtain ⟨e5, hv99, hz95⟩ := of_obind hz95
              refine go_indexAT encBx l4 k e5 hv99 (by first | rfl | (simp [setI]; done) | omega | (dsimp only; omega) | (simp [setI]; omega)) ttok rfl rfl rfl rfl rfl rfl rfl rfl rfl rfl ?_
              refine go_loadT encBx l4 k e5 _ hv99 ttok rfl rfl rfl rfl rfl rfl rfl ?_
              refine go_call fn30 (l27_apart_w e4 e5 _ rfl) rfl rfl rfl rfl rfl rfl rfl ?_
              refine go_run' ttok 1 rfl ?_
              refine go_nil (fun _ => by kernel_rfl) ?_
              refine then_norm ?_
              refine awp_cond (b := (!(l27_apart_g e4 e5))) rfl (fun c100 => ?_) (fun c100 => ?_)
              ·replace hz95 := of_bif_t hz95 c100
               refine awp_seq (awp_go hmix (go_run' ttok 1 rfl (go_nil nd (then_norm (awp_ret (block_ret (then_ret ?_)))))))
               obtain ⟨t27, hn101, hq⟩ := of_mapr' hz95
               subst hq
               have hq : t27 = _ := hk96
               subst hq
               refine then_ret (block_ret ?_)
               obtain ⟨t28, hn102, hq⟩ := of_mapl' hn101
               subst hq
               have hq := of_inl hx79
               replace hq := of_some hq
               subst hq
               refine then_ret (block_ret ?_)
               obtain ⟨t29, hn103, hq⟩ := of_mapl' hn102
               subst hq
               have hq := of_inl hz76
               replace hq := of_some hq
               subst hq
               refine then_ret ?_
               obtain ⟨t30, hn104, hq⟩ := of_mapr' hn103
               subst hq
               have hq : t30 = _ := hk77
               subst hq
               refine then_ret (block_ret ?_)
               obtain ⟨t31, hn105, hq⟩ := of_mapl' hn104
               subst hq
               have hq := of_inl h
               replace hq := of_some hq
               subst hq
               refine then_ret ?_
               have e106 := of_some hn105
               subst e106
               refine ret_ret ?_
               refine fin0 ttok rfl rfl ?_
               exact (wkP_refl _ rfl)
              ·replace hz95 := of_bif_f hz95 c100
               refine awp_skip (block_norm (then_norm (awp_go hmix (go_run' ttok 3 rfl (go_nil nd ?_)))))
               have e107 := of_some hz95
               subst e107
               refine then_norm ⟨rfl, (W64 (k + 1)), [(152, some 152), (1, some 1)], ⟨rfl, rfl, rfl, rfl, rfl, ⟨wkP_id _ rfl, ⟨rfl, rfl, (by first | rfl | (simp [setI]; done) | omega | (dsimp only; omega) | (simp [setI]; omega))⟩, trivial⟩, ⟨⟨_, rfl, rfl, rfl, wkX_map (enc := encBx) l4 (fun _ => rfl)⟩, trivial⟩⟩, hk96⟩
             ·replace hz95 := of_bif_f hz95 c97
              refine awp_exit (then_exit ?_)
              obtain ⟨t32, hn108, hq⟩ := of_mapr' hz95
              subst hq
              have hq : t32 = _ := hk96
              subst hq
              refine then_exit (block_here ?_)
              have e109 := of_some hn108
              refine then_norm ⟨rfl, (), [(152, some 152), (1, some 1)], ⟨rfl, rfl, rfl, rfl, rfl, ⟨⟨rfl, rfl, (by first | rfl | (simp [setI]; done) | omega | (dsimp only; omega) | (simp [setI]; omega))⟩, trivial⟩, ⟨⟨_, rfl, rfl, rfl, wkX_map (enc := encBx) l4 (fun _ => rfl)⟩, trivial⟩⟩, e109⟩
            ·intro w3 hw94
             subst hw94
             replace hx79 := of_inr hx79
             refine awp_go hmix (go_run' ttok 3 rfl ?_)
             obtain ⟨e6, hv110, hx79⟩ := of_obind hx79
             refine go_indexAT encBx l4 i1 e6 hv110 (by first | rfl | (simp [setI]; done) | omega | (dsimp only; omega) | (simp [setI]; omega)) ttok rfl rfl rfl rfl rfl rfl rfl rfl rfl rfl ?_
             refine go_loadT encBx l4 i1 e6 _ hv110 ttok rfl rfl rfl rfl rfl rfl rfl ?_
             refine go_call fn29 (l27_volume_w e6 _ rfl) rfl rfl rfl rfl rfl rfl rfl ?_
             refine go_run' ttok 2 rfl (go_nil nd (block_norm ?_))
             have e111 := of_some hx79
             refine then_norm ⟨rfl, (W64 (vsum1 + (l27_volume_g e6))), [(152, some 152), (1, some 1)], ⟨rfl, rfl, rfl, rfl, rfl, ⟨⟨rfl, rfl, (by first | rfl | (simp [setI]; done) | omega | (dsimp only; omega) | (simp [setI]; omega))⟩, wkP_id _ rfl, trivial⟩, ⟨⟨_, rfl, rfl, rfl, wkX_map (enc := encBx) l4 (fun _ => rfl)⟩, trivial⟩⟩, e111⟩
         ·intro vsum2 hw80
          subst hw80
          replace hz76 := of_inr hz76
          refine awp_go hmix (go_run' ttok 3 rfl (go_nil nd ?_))
          have e112 := of_some hz76
          subst e112
          refine then_norm ⟨rfl, (vsum2, (W64 (i1 + 1))), [(152, some 152), (1, some 1)], ⟨rfl, rfl, rfl, rfl, rfl, ⟨wkP_id _ rfl, wkP_id _ rfl, ⟨rfl, rfl, (by first | rfl | (simp [setI]; done) | omega | (dsimp only; omega) | (simp [setI]; omega))⟩, trivial⟩, ⟨⟨_, rfl, rfl, rfl, wkX_map (enc := encBx) l4 (fun _ => rfl)⟩, trivial⟩⟩, hk77⟩
        ·replace hz76 := of_bif_f hz76 c78
         refine awp_exit (then_exit ?_)
         obtain ⟨t33, hn113, hq⟩ := of_mapr' hz76
         subst hq
         have hq : t33 = _ := hk77
         subst hq
         refine then_exit (block_here ?_)
         have e114 := of_some hn113
         refine then_norm ⟨rfl, vsum1, [(1, some 1)], ⟨rfl, rfl, rfl, rfl, rfl, ⟨wkP_id _ rfl, trivial⟩, trivial⟩, e114⟩
       ·intro vsum hw75
        subst hw75
        replace h := of_inr h
        refine awp_seq (awp_go hmix (go_run' ttok 4 rfl ?_))
        refine go_call fn29 (l27_volume_w x.Board.Box _ rfl) rfl rfl rfl rfl rfl rfl rfl ?_
        refine go_run' ttok 2 rfl ?_
        refine go_gcase rfl rfl rfl (fun g115 => ?_) (fun g115 => ?_)
        ·rw [g115]
         replace h := of_bif_t h g115
         obtain ⟨av2, hv116, h⟩ := of_obind h
         refine go_call fn12 (l27_awake_w av2 hv116) rfl rfl rfl rfl rfl rfl rfl ?_
         refine go_run' ttok 2 rfl (go_nil nd (then_norm (awp_ret ?_)))
         have e117 := of_some h
         subst e117
         refine ret_ret ?_
         refine fin0 ttok rfl rfl ?_
         exact (wkP_refl _ rfl)
        ·rw [g115]
         replace h := of_bif_f h g115
         refine go_run' ttok 3 rfl (go_nil nd (then_norm (awp_ret ?_)))
         have e118 := of_some h
         subst e118
         refine ret_ret ?_
         refine fin0 ttok rfl rfl ?_
         exact (wkP_refl _ rfl)

/-- sawmill/sawmilllaw27.moved -/
noncomputable def l27_moved_g (a : Bx) (b : Bx) : Bx :=
 (⟨(⟨(W64 (a.x.a - b.x.a)), (W64 (a.x.b - b.x.a))⟩ : Sp), (⟨(W64 (a.y.a - b.y.a)), (W64 (a.y.b - b.y.a))⟩ : Sp), (⟨(W64 (a.z.a - b.z.a)), (W64 (a.z.b - b.z.a))⟩ : Sp)⟩ : Bx)
theorem l27_moved_w (a : Bx) (b : Bx) (r : Bx) (h : l27_moved_g a b = r) : Holds Try.prog 31 [(encBx a), (encBx b)] [] (encBx r) [] := by
 unfold l27_moved_g at h
 refine holds_fn Try.func31 rfl Try.ntmps31 rfl rfl rfl (fun lim => ?_)
 refine awp_seq (awp_go hmix (go_run' ttok 3 rfl (go_nil nd (then_norm (awp_seq (awp_go hmix (go_run' ttok 47 rfl (go_nil nd (then_norm (awp_ret ?_))))))))))
 have e1 := h
 subst e1
 refine ret_ret ?_
 refine fin0 ttok rfl rfl ?_
 exact (wkP_refl _ rfl)

noncomputable def l27_ResawDefects_s2 (x : Tsawmilllaw27_Split) (ov : ((List TBoard) × (List Bx) × (List Bx) × Int)) (i : Int) (mv : Bx) (k1 : Int) (j : Int) : Option ((Int × Int) ⊕ (((Int ⊕ (Bool ⊕ Unit)) ⊕ Unit) ⊕ Int)) :=
 (bif (decide (j < ((x.Board.Defects.length : Nat) : Int))) then (Option.bind (getI x.Board.Defects j) (fun e1 => (bif (l27_apart_g e1.b mv) then some (Sum.inl (k1, (W64 (j + 1)))) else (Option.bind (getI ov.1 i) (fun e2 => (bif (decide (((e2.Defects.length : Nat) : Int) ≤ k1)) then some (Sum.inr (Sum.inl (Sum.inl (Sum.inr (Sum.inl false))))) else (Option.bind (getI ov.1 i) (fun e3 => (Option.bind (getI e3.Defects k1) (fun e4 => (bif (e4.k != e1.k) then some (Sum.inr (Sum.inl (Sum.inl (Sum.inr (Sum.inl false))))) else (bif (l27_inside_g e1.b mv) then (Option.bind (getI ov.1 i) (fun e5 => (Option.bind (getI e5.Defects k1) (fun e6 => (letB (l27_moved_g e1.b mv) (fun mv1 => (bif (!(eqV encBx e6.b mv1)) then some (Sum.inr (Sum.inl (Sum.inl (Sum.inr (Sum.inl false))))) else some (Sum.inl ((W64 (k1 + 1)), (W64 (j + 1))))))))))) else some (Sum.inl ((W64 (k1 + 1)), (W64 (j + 1)))))))))))))))) else some (Sum.inr (Sum.inr k1)))
noncomputable def l27_ResawDefects_s1 (x : Tsawmilllaw27_Split) (ov : ((List TBoard) × (List Bx) × (List Bx) × Int)) (i : Int) : Option (Int ⊕ (Bool ⊕ Unit)) :=
 (bif (decide (i < ((ov.1.length : Nat) : Int))) then (Option.bind ((Option.bind (getI ov.1 i) (fun e => (letB (l27_moved_g e.Box x.Board.Box) (fun mv => (Option.bind ((loopO (fun q => l27_ResawDefects_s2 x ov i mv q.1 q.2) (0, 0)) : Option (((Int ⊕ (Bool ⊕ Unit)) ⊕ Unit) ⊕ Int)) (Sum.elim (fun q => some q) (fun k => (Option.bind (getI ov.1 i) (fun e7 => (bif (k != ((e7.Defects.length : Nat) : Int)) then some (Sum.inl (Sum.inr (Sum.inl false))) else some (Sum.inr ()))))))))))) : Option ((Int ⊕ (Bool ⊕ Unit)) ⊕ Unit)) (Sum.elim (fun q => some q) (fun _ => some (Sum.inl (W64 (i + 1)))))) else some (Sum.inr (Sum.inr ())))
/-- sawmill/sawmilllaw27.ResawDefects -/
noncomputable def l27_ResawDefects_g (x : Tsawmilllaw27_Split) : Option Bool :=
 (Option.bind (l27_small_g x) (fun sv => (bif (!sv) then (Option.bind l27_awake_g (fun av => some av)) else (Option.bind (l27_of_g x) (fun ov => (bif (ov.2.2.2 != 0) then (Option.bind l27_awake_g (fun av1 => some av1)) else (Option.bind ((loopO (fun q => l27_ResawDefects_s1 x ov q) 0) : Option (Bool ⊕ Unit)) (Sum.elim (fun q => some q) (fun _ => (Option.bind l27_awake_g (fun av2 => some av2)))))))))))
theorem l27_ResawDefects_w (x : Tsawmilllaw27_Split) (r : Bool) (h : l27_ResawDefects_g x = some r) : Holds Try.prog 10 [(encTsawmilllaw27_Split x)] [] (B r) [] := by
 unfold l27_ResawDefects_g at h
 refine holds_fn Try.func10 rfl Try.ntmps10 rfl rfl rfl (fun lim => ?_)
 refine awp_seq (awp_go hmix (go_run' ttok 2 rfl (go_nil nd (then_norm (awp_seq (awp_seq (awp_go hmix (go_run' ttok 1 rfl ?_))))))))
 obtain ⟨sv, hv1, h⟩ := of_obind h
 refine go_call fn22 (l27_small_w x sv hv1) rfl rfl rfl rfl rfl rfl rfl ?_
 refine go_run' ttok 1 rfl (go_nil nd (then_norm ?_))
 refine awp_cond (b := (!sv)) rfl (fun c2 => ?_) (fun c2 => ?_)
 ·replace h := of_bif_t h c2
  refine awp_seq (awp_go hmix ?_)
  obtain ⟨av, hv3, h⟩ := of_obind h
  refine go_call fn12 (l27_awake_w av hv3) rfl rfl rfl rfl rfl rfl rfl ?_
  refine go_run' ttok 1 rfl (go_nil nd (then_norm (awp_ret (then_ret ?_))))
  have e4 := of_some h
  subst e4
  refine ret_ret ?_
  refine fin0 ttok rfl rfl ?_
  exact (wkP_refl _ rfl)
 ·replace h := of_bif_f h c2
  refine awp_skip (then_norm (awp_seq (awp_go hmix (go_run' ttok 1 rfl ?_))))
  obtain ⟨ov, hv5, h⟩ := of_obind h
  refine go_call fn23 (l27_of_w x ov hv5) rfl rfl rfl rfl rfl rfl rfl ?_
  refine go_run' ttok 9 rfl (go_nil nd (then_norm (awp_seq (awp_seq (awp_go hmix (go_run' ttok 2 rfl (go_nil nd (then_norm ?_))))))))
  refine awp_cond (b := (ov.2.2.2 != 0)) rfl (fun c6 => ?_) (fun c6 => ?_)
  ·replace h := of_bif_t h c6
   refine awp_seq (awp_go hmix ?_)
   obtain ⟨av1, hv7, h⟩ := of_obind h
   refine go_call fn12 (l27_awake_w av1 hv7) rfl rfl rfl rfl rfl rfl rfl ?_
   refine go_run' ttok 1 rfl (go_nil nd (then_norm (awp_ret (then_ret ?_))))
   have e8 := of_some h
   subst e8
   refine ret_ret ?_
   refine fin0 ttok rfl rfl ?_
   exact (wkP_refl _ rfl)
  ·replace h := of_bif_f h c6
   refine awp_skip (then_norm ?_)
   obtain ⟨y, hx9, h⟩ := of_obind h
   refine awp_seqJ (X := Unit) [] [] (fun _ => []) (fun _ => []) (fun w => Sum.inr w = y) rfl rfl ?_ ?_
   ·skip
    refine awp_seq (awp_go hmix (go_run' ttok 1 rfl (go_nil nd (then_norm (awp_block ?_)))))
    refine awp_loopD (X := Int) (Y := (Bool ⊕ Unit)) [1, 3] [1] (fun q => [(7, (I q))]) (fun q => []) (fun q => l27_ResawDefects_s1 x ov q) 0 [(1, some 1)] hx9 ⟨rfl, rfl, rfl, rfl, rfl, ⟨wkP_id _ rfl, trivial⟩, trivial⟩ (fun i vR vz hz11 hk12 => ?_)
    change l27_ResawDefects_s1 x ov i = _ at hz11
    unfold l27_ResawDefects_s1 at hz11
    refine awp_seq (awp_seq (awp_go hmix (go_run' ttok 2 rfl ?_)))
    refine go_lenT encTBoard ov.1 ttok rfl rfl rfl rfl rfl rfl ?_
    refine go_run' ttok 1 rfl (go_nil nd (then_norm ?_))
    refine awp_cond (b := (decide (i < ((ov.1.length : Nat) : Int)))) rfl (fun c13 => ?_) (fun c13 => ?_)
    ·replace hz11 := of_bif_t hz11 c13
     refine awp_skip (then_norm ?_)
     obtain ⟨y1, hx14, hz11⟩ := of_obind hz11
     refine awp_seqJ (X := Unit) [1, 3, 7] [1] (fun _ => []) (fun _ => []) (fun w1 => Sum.inr w1 = y1) rfl rfl ?_ ?_
     ·skip
      refine awp_block (awp_seq (awp_go hmix (go_run' ttok 2 rfl ?_)))
      obtain ⟨e, hv16, hx14⟩ := of_obind hx14
      refine go_indexT encTBoard ov.1 i e hv16 ttok rfl rfl rfl rfl rfl rfl rfl rfl rfl ?_
      refine go_run' ttok 5 rfl ?_
      obtain ⟨mv, hv17, hx14⟩ := of_let hx14
      refine go_call fn31 (l27_moved_w e.Box x.Board.Box mv hv17) rfl rfl rfl rfl rfl rfl rfl ?_
      refine go_run' ttok 2 rfl ?_
      refine go_nil (fun _ => by kernel_rfl) ?_
      refine then_norm (awp_seq (awp_go hmix (go_run' ttok 1 rfl (go_nil nd (then_norm ?_)))))
      obtain ⟨y2, hx18, hx14⟩ := of_obind hx14
      refine awp_seqJ (X := Int) [1, 3, 7] [1] (fun w2 => [(9, (I w2))]) (fun w2 => []) (fun w2 => Sum.inr w2 = y2) rfl rfl ?_ ?_
      ·skip
       refine awp_seq (awp_go hmix (go_run' ttok 1 rfl (go_nil nd (then_norm (awp_block ?_)))))
       refine awp_loopD (X := (Int × Int)) (Y := (((Int ⊕ (Bool ⊕ Unit)) ⊕ Unit) ⊕ Int)) [1, 3, 7, 8] [1, 8] (fun q => [(9, (I q.1)), (10, (I q.2))]) (fun q => []) (fun q => l27_ResawDefects_s2 x ov i mv q.1 q.2) (0, 0) [(1, some 1), (8, some 8)] hx18 ⟨rfl, rfl, rfl, rfl, rfl, ⟨wkP_id _ rfl, wkP_id _ rfl, trivial⟩, trivial⟩ (fun x1 vR1 vz1 hz20 hk21 => ?_)
       obtain ⟨k1, j⟩ := x1
       change l27_ResawDefects_s2 x ov i mv k1 j = _ at hz20
       unfold l27_ResawDefects_s2 at hz20
       refine awp_seq (awp_seq (awp_go hmix (go_run' ttok 4 rfl ?_)))
       refine go_lenT encDf x.Board.Defects ttok rfl rfl rfl rfl rfl rfl ?_
       refine go_run' ttok 1 rfl (go_nil nd (then_norm ?_))
       refine awp_cond (b := (decide (j < ((x.Board.Defects.length : Nat) : Int)))) rfl (fun c22 => ?_) (fun c22 => ?_)
       ·replace hz20 := of_bif_t hz20 c22
        refine awp_skip (then_norm (awp_seq (awp_block (awp_seq (awp_go hmix (go_run' ttok 4 rfl ?_))))))
        obtain ⟨e1, hv23, hz20⟩ := of_obind hz20
        refine go_indexT encDf x.Board.Defects j e1 hv23 ttok rfl rfl rfl rfl rfl rfl rfl rfl rfl ?_
        refine go_run' ttok 3 rfl (go_nil nd (then_norm (awp_seq (awp_seq (awp_go hmix (go_run' ttok 3 rfl ?_))))))
        refine go_call fn30 (l27_apart_w e1.b mv _ rfl) rfl rfl rfl rfl rfl rfl rfl ?_
        refine go_nil nd (then_norm ?_)
        refine awp_cond (b := (l27_apart_g e1.b mv)) rfl (fun c24 => ?_) (fun c24 => ?_)
        ·replace hz20 := of_bif_t hz20 c24
         refine awp_exit (then_exit (block_here (then_norm (awp_go hmix (go_run' ttok 3 rfl (go_nil nd ?_))))))
         have e25 := of_some hz20
         subst e25
         refine then_norm ⟨rfl, (k1, (W64 (j + 1))), [(1, some 1), (8, some 8)], ⟨rfl, rfl, rfl, rfl, rfl, ⟨wkP_id _ rfl, wkP_id _ rfl, trivial⟩, trivial⟩, hk21⟩
        ·replace hz20 := of_bif_f hz20 c24
         refine awp_skip (then_norm (awp_seq (awp_seq (awp_go hmix (go_run' ttok 3 rfl ?_)))))
         obtain ⟨e2, hv26, hz20⟩ := of_obind hz20
         refine go_indexT encTBoard ov.1 i e2 hv26 ttok rfl rfl rfl rfl rfl rfl rfl rfl rfl ?_
         refine go_run' ttok 2 rfl ?_
         refine go_lenT encDf e2.Defects ttok rfl rfl rfl rfl rfl rfl ?_
         refine go_run' ttok 2 rfl ?_
         refine go_gcase rfl rfl rfl (fun g27 => ?_) (fun g27 => ?_)
         ·rw [g27]
          replace hz20 := of_bif_t hz20 g27
          refine go_run' ttok 13 rfl ?_
          refine go_nil (fun _ => by kernel_rfl) ?_
          refine then_norm ?_
          refine awp_cond rfl (fun tt0 => ?_) (fun h => by cases h)
          clear tt0
          refine awp_seq (awp_go hmix (go_run' ttok 1 rfl (go_nil nd (then_norm (awp_ret (then_ret (block_ret (then_ret ?_))))))))
          obtain ⟨t, hn28, hq⟩ := of_mapr' hz20
          subst hq
          have hq : t = _ := hk21
          subst hq
          refine then_ret (block_ret ?_)
          obtain ⟨t1, hn29, hq⟩ := of_mapl' hn28
          subst hq
          have hq := of_inl hx14
          replace hq := of_some hq
          subst hq
          refine then_ret (block_ret ?_)
          obtain ⟨t2, hn30, hq⟩ := of_mapl' hn29
          subst hq
          have hq := of_inl hz11
          replace hq := of_some hq
          subst hq
          refine then_ret ?_
          obtain ⟨t3, hn31, hq⟩ := of_mapr' hn30
          subst hq
          have hq : t3 = _ := hk12
          subst hq
          refine then_ret (block_ret ?_)
          obtain ⟨t4, hn32, hq⟩ := of_mapl' hn31
          subst hq
          have hq := of_inl h
          replace hq := of_some hq
          subst hq
          refine then_ret ?_
          have e33 := of_some hn32
          subst e33
          refine ret_ret ?_
          refine fin0 ttok rfl rfl ?_
          exact (wkP_refl _ rfl)
         ·rw [g27]
          replace hz20 := of_bif_f hz20 g27
          refine go_run' ttok 2 rfl ?_
          obtain ⟨e3, hv34, hz20⟩ := of_obind hz20
          refine go_indexT encTBoard ov.1 i e3 hv34 ttok rfl rfl rfl rfl rfl rfl rfl rfl rfl ?_
          refine go_run' ttok 3 rfl ?_
          obtain ⟨e4, hv35, hz20⟩ := of_obind hz20
          refine go_indexT encDf e3.Defects k1 e4 hv35 ttok rfl rfl rfl rfl rfl rfl rfl rfl rfl ?_
          refine go_run' ttok 6 rfl ?_
          refine go_nil (fun _ => by kernel_rfl) ?_
          refine then_norm ?_
          refine awp_cond (b := (e4.k != e1.k)) rfl (fun c36 => ?_) (fun c36 => ?_)
          ·replace hz20 := of_bif_t hz20 c36
           refine awp_seq (awp_go hmix (go_run' ttok 1 rfl (go_nil nd (then_norm (awp_ret (then_ret (block_ret (then_ret ?_))))))))
           obtain ⟨t5, hn37, hq⟩ := of_mapr' hz20
           subst hq
           have hq : t5 = _ := hk21
           subst hq
           refine then_ret (block_ret ?_)
           obtain ⟨t6, hn38, hq⟩ := of_mapl' hn37
           subst hq
           have hq := of_inl hx14
           replace hq := of_some hq
           subst hq
           refine then_ret (block_ret ?_)
           obtain ⟨t7, hn39, hq⟩ := of_mapl' hn38
           subst hq
           have hq := of_inl hz11
           replace hq := of_some hq
           subst hq
           refine then_ret ?_
           obtain ⟨t8, hn40, hq⟩ := of_mapr' hn39
           subst hq
           have hq : t8 = _ := hk12
           subst hq
           refine then_ret (block_ret ?_)
           obtain ⟨t9, hn41, hq⟩ := of_mapl' hn40
           subst hq
           have hq := of_inl h
           replace hq := of_some hq
           subst hq
           refine then_ret ?_
           have e42 := of_some hn41
           subst e42
           refine ret_ret ?_
           refine fin0 ttok rfl rfl ?_
           exact (wkP_refl _ rfl)
          ·replace hz20 := of_bif_f hz20 c36
           refine awp_skip (then_norm (awp_seq (awp_seq (awp_go hmix (go_run' ttok 3 rfl ?_)))))
           refine go_call fn28 (l27_inside_w e1.b mv _ rfl) rfl rfl rfl rfl rfl rfl rfl ?_
           refine go_run' ttok 1 rfl ?_
           refine go_gcase rfl rfl rfl (fun g43 => ?_) (fun g43 => ?_)
           ·rw [g43]
            replace hz20 := of_bif_t hz20 g43
            refine go_run' ttok 2 rfl ?_
            obtain ⟨e5, hv44, hz20⟩ := of_obind hz20
            refine go_indexT encTBoard ov.1 i e5 hv44 ttok rfl rfl rfl rfl rfl rfl rfl rfl rfl ?_
            refine go_run' ttok 3 rfl ?_
            obtain ⟨e6, hv45, hz20⟩ := of_obind hz20
            refine go_indexT encDf e5.Defects k1 e6 hv45 ttok rfl rfl rfl rfl rfl rfl rfl rfl rfl ?_
            refine go_run' ttok 5 rfl ?_
            obtain ⟨mv1, hv46, hz20⟩ := of_let hz20
            refine go_call fn31 (l27_moved_w e1.b mv mv1 hv46) rfl rfl rfl rfl rfl rfl rfl ?_
            refine go_step rfl (as_neAgg shBx rfl eqT39_1 eqT39_2 (by decide) rfl rfl rfl rfl rfl) rfl rfl rfl ?_
            refine go_run' ttok 1 rfl ?_
            refine go_nil (fun _ => by kernel_rfl) ?_
            refine then_norm ?_
            refine awp_cond (b := (!(eqV encBx e6.b mv1))) rfl (fun c47 => ?_) (fun c47 => ?_)
            ·replace hz20 := of_bif_t hz20 c47
             refine awp_seq (awp_go hmix (go_run' ttok 1 rfl (go_nil nd (then_norm (awp_ret (then_ret (block_ret (then_ret ?_))))))))
             obtain ⟨t10, hn48, hq⟩ := of_mapr' hz20
             subst hq
             have hq : t10 = _ := hk21
             subst hq
             refine then_ret (block_ret ?_)
             obtain ⟨t11, hn49, hq⟩ := of_mapl' hn48
             subst hq
             have hq := of_inl hx14
             replace hq := of_some hq
             subst hq
             refine then_ret (block_ret ?_)
             obtain ⟨t12, hn50, hq⟩ := of_mapl' hn49
             subst hq
             have hq := of_inl hz11
             replace hq := of_some hq
             subst hq
             refine then_ret ?_
             obtain ⟨t13, hn51, hq⟩ := of_mapr' hn50
             subst hq
             have hq : t13 = _ := hk12
             subst hq
             refine then_ret (block_ret ?_)
             obtain ⟨t14, hn52, hq⟩ := of_mapl' hn51
             subst hq
             have hq := of_inl h
             replace hq := of_some hq
             subst hq
             refine then_ret ?_
             have e53 := of_some hn52
             subst e53
             refine ret_ret ?_
             refine fin0 ttok rfl rfl ?_
             exact (wkP_refl _ rfl)
            ·replace hz20 := of_bif_f hz20 c47
             refine awp_skip (then_norm (awp_go hmix (go_run' ttok 3 rfl (go_nil nd (block_norm (then_norm (awp_go hmix (go_run' ttok 3 rfl (go_nil nd ?_)))))))))
             have e54 := of_some hz20
             subst e54
             refine then_norm ⟨rfl, ((W64 (k1 + 1)), (W64 (j + 1))), [(1, some 1), (8, some 8)], ⟨rfl, rfl, rfl, rfl, rfl, ⟨wkP_id _ rfl, wkP_id _ rfl, trivial⟩, trivial⟩, hk21⟩
           ·rw [g43]
            replace hz20 := of_bif_f hz20 g43
            refine go_run' ttok 15 rfl ?_
            refine go_nil (fun _ => by kernel_rfl) ?_
            refine then_norm ?_
            refine awp_cond rfl (fun h => by cases h) (fun tt0 => ?_)
            clear tt0
            refine awp_skip (then_norm (awp_go hmix (go_run' ttok 3 rfl (go_nil nd (block_norm (then_norm (awp_go hmix (go_run' ttok 3 rfl (go_nil nd ?_)))))))))
            have e55 := of_some hz20
            subst e55
            refine then_norm ⟨rfl, ((W64 (k1 + 1)), (W64 (j + 1))), [(1, some 1), (8, some 8)], ⟨rfl, rfl, rfl, rfl, rfl, ⟨wkP_id _ rfl, wkP_id _ rfl, trivial⟩, trivial⟩, hk21⟩
       ·replace hz20 := of_bif_f hz20 c22
        refine awp_exit (then_exit ?_)
        obtain ⟨t15, hn56, hq⟩ := of_mapr' hz20
        subst hq
        have hq : t15 = _ := hk21
        subst hq
        refine then_exit (block_here ?_)
        have e57 := of_some hn56
        refine then_norm ⟨rfl, k1, [(1, some 1)], ⟨rfl, rfl, rfl, rfl, rfl, ⟨wkP_id _ rfl, trivial⟩, trivial⟩, e57⟩
      ·intro k hw19
       subst hw19
       replace hx14 := of_inr hx14
       refine awp_seq (awp_go hmix (go_run' ttok 3 rfl ?_))
       obtain ⟨e7, hv58, hx14⟩ := of_obind hx14
       refine go_indexT encTBoard ov.1 i e7 hv58 ttok rfl rfl rfl rfl rfl rfl rfl rfl rfl ?_
       refine go_run' ttok 2 rfl ?_
       refine go_lenT encDf e7.Defects ttok rfl rfl rfl rfl rfl rfl ?_
       refine go_run' ttok 1 rfl (go_nil nd (then_norm ?_))
       refine awp_cond (b := (k != ((e7.Defects.length : Nat) : Int))) rfl (fun c59 => ?_) (fun c59 => ?_)
       ·replace hx14 := of_bif_t hx14 c59
        refine awp_seq (awp_go hmix (go_run' ttok 1 rfl (go_nil nd (then_norm (awp_ret (block_ret ?_))))))
        obtain ⟨t16, hn60, hq⟩ := of_mapl' hx14
        subst hq
        have hq := of_inl hz11
        replace hq := of_some hq
        subst hq
        refine then_ret ?_
        obtain ⟨t17, hn61, hq⟩ := of_mapr' hn60
        subst hq
        have hq : t17 = _ := hk12
        subst hq
        refine then_ret (block_ret ?_)
        obtain ⟨t18, hn62, hq⟩ := of_mapl' hn61
        subst hq
        have hq := of_inl h
        replace hq := of_some hq
        subst hq
        refine then_ret ?_
        have e63 := of_some hn62
        subst e63
        refine ret_ret ?_
        refine fin0 ttok rfl rfl ?_
        exact (wkP_refl _ rfl)
       ·replace hx14 := of_bif_f hx14 c59
        refine awp_skip (block_norm ?_)
        have e64 := of_some hx14
        refine then_norm ⟨rfl, (), [(1, some 1)], ⟨rfl, rfl, rfl, rfl, rfl, trivial, trivial⟩, e64⟩
     ·intro w1 hw15
      subst hw15
      replace hz11 := of_inr hz11
      refine awp_go hmix (go_run' ttok 3 rfl (go_nil nd ?_))
      have e65 := of_some hz11
      subst e65
      refine then_norm ⟨rfl, (W64 (i + 1)), [(1, some 1)], ⟨rfl, rfl, rfl, rfl, rfl, ⟨wkP_id _ rfl, trivial⟩, trivial⟩, hk12⟩
    ·replace hz11 := of_bif_f hz11 c13
     refine awp_exit (then_exit ?_)
     obtain ⟨t19, hn66, hq⟩ := of_mapr' hz11
     subst hq
     have hq : t19 = _ := hk12
     subst hq
     refine then_exit (block_here ?_)
     have e67 := of_some hn66
     refine then_norm ⟨rfl, (), [], ⟨rfl, rfl, rfl, rfl, rfl, trivial, trivial⟩, e67⟩
   ·intro w hw10
    subst hw10
    replace h := of_inr h
    refine awp_seq (awp_go hmix ?_)
    obtain ⟨av2, hv68, h⟩ := of_obind h
    refine go_call fn12 (l27_awake_w av2 hv68) rfl rfl rfl rfl rfl rfl rfl ?_
    refine go_run' ttok 1 rfl (go_nil nd (then_norm (awp_ret ?_)))
    have e69 := of_some h
    subst e69
    refine ret_ret ?_
    refine fin0 ttok rfl rfl ?_
    exact (wkP_refl _ rfl)

end Go.Proofs.Ytcimnopodmnmmaa
