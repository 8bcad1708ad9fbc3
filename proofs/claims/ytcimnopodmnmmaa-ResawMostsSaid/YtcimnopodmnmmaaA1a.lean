/- A1a: what functions of the program compute (written by mod.py). -/
import Derived.Test.YtcimnopodmnmmaaTy
import Derived.KernelRfl
namespace Go.Proofs.Ytcimnopodmnmmaa
open Go Go.Ab
set_option linter.unusedSimpArgs false
set_option linter.unusedVariables false
set_option linter.unusedSectionVars false
set_option maxRecDepth 20000
set_option maxHeartbeats 1000000

/-- sawmill/sawmilllaw27.few -/
noncomputable def l27_few_g (x : Tsawmilllaw27_Parts) : Bool :=
 (bif (decide (((x.Sizes.length : Nat) : Int) ≤ 20)) then (decide (((x.Prices.length : Nat) : Int) ≤ 20)) else false)
theorem l27_few_w (x : Tsawmilllaw27_Parts) (r : Bool) (h : l27_few_g x = r) : Holds Try.prog 11 [(encTsawmilllaw27_Parts x)] [] (B r) [] := by
 unfold l27_few_g at h
 refine holds_fn Try.func11 rfl Try.ntmps11 rfl rfl rfl (fun lim => ?_)
 refine awp_seq (awp_go hmix (go_run' ttok 2 rfl (go_nil nd (then_norm (awp_seq (awp_go hmix (go_run' ttok 2 rfl ?_)))))))
 refine go_lenT I x.Sizes ttok rfl rfl rfl rfl rfl rfl ?_
 refine go_run' ttok 2 rfl ?_
 refine go_gcase rfl rfl rfl (fun g1 => ?_) (fun g1 => ?_)
 ·rw [g1]
  replace h := of_bif_t h g1
  refine go_run' ttok 2 rfl ?_
  refine go_lenT I x.Prices ttok rfl rfl rfl rfl rfl rfl ?_
  refine go_run' ttok 3 rfl (go_nil nd (then_norm (awp_ret ?_)))
  have e2 := h
  subst e2
  refine ret_ret ?_
  refine fin0 ttok rfl rfl ?_
  exact (wkP_refl _ rfl)
 ·rw [g1]
  replace h := of_bif_f h g1
  refine go_run' ttok 6 rfl (go_nil nd (then_norm (awp_ret ?_)))
  have e3 := h
  subst e3
  refine ret_ret ?_
  refine fin0 ttok rfl rfl ?_
  exact (wkP_refl _ rfl)

/-- sawmill/resaw.isSaw -/
noncomputable def resaw_isSaw_g (thick : Int) (kerf : Int) : Bool :=
 (bif (decide (1 ≤ thick)) then (bif (decide (thick ≤ 600)) then (bif (decide (0 ≤ kerf)) then (decide (kerf ≤ 20)) else false) else false) else false)
theorem resaw_isSaw_w (thick : Int) (kerf : Int) (r : Bool) (h : resaw_isSaw_g thick kerf = r) : Holds Try.prog 34 [(I thick), (I kerf)] [] (B r) [] := by
 unfold resaw_isSaw_g at h
 refine holds_fn Try.func34 rfl Try.ntmps34 rfl rfl rfl (fun lim => ?_)
 refine awp_seq (awp_go hmix (go_run' ttok 1 rfl (go_nil nd (then_norm (awp_seq (awp_go hmix (go_run' ttok 3 rfl ?_)))))))
 refine go_gcase rfl rfl rfl (fun g1 => ?_) (fun g1 => ?_)
 ·rw [g1]
  replace h := of_bif_t h g1
  refine go_run' ttok 4 rfl ?_
  refine go_gcase rfl rfl rfl (fun g2 => ?_) (fun g2 => ?_)
  ·rw [g2]
   replace h := of_bif_t h g2
   refine go_run' ttok 4 rfl ?_
   refine go_gcase rfl rfl rfl (fun g3 => ?_) (fun g3 => ?_)
   ·rw [g3]
    replace h := of_bif_t h g3
    refine go_run' ttok 4 rfl (go_nil nd (then_norm (awp_ret ?_)))
    have e4 := h
    subst e4
    refine ret_ret ?_
    refine fin0 ttok rfl rfl ?_
    exact (wkP_refl _ rfl)
   ·rw [g3]
    replace h := of_bif_f h g3
    refine go_run' ttok 4 rfl (go_nil nd (then_norm (awp_ret ?_)))
    have e5 := h
    subst e5
    refine ret_ret ?_
    refine fin0 ttok rfl rfl ?_
    exact (wkP_refl _ rfl)
  ·rw [g2]
   replace h := of_bif_f h g2
   refine go_run' ttok 8 rfl (go_nil nd (then_norm (awp_ret ?_)))
   have e6 := h
   subst e6
   refine ret_ret ?_
   refine fin0 ttok rfl rfl ?_
   exact (wkP_refl _ rfl)
 ·rw [g1]
  replace h := of_bif_f h g1
  refine go_run' ttok 12 rfl (go_nil nd (then_norm (awp_ret ?_)))
  have e7 := h
  subst e7
  refine ret_ret ?_
  refine fin0 ttok rfl rfl ?_
  exact (wkP_refl _ rfl)

noncomputable def resaw_Check_s1 (thick : Int) (parts : (List Int)) (vsum1 : Int) (vv : Int) : Option ((Int × Int) ⊕ (Int ⊕ Int)) :=
 (bif (decide (vv < ((parts.length : Nat) : Int))) then (Option.bind (getI parts vv) (fun e => (bif (decide (e < 1)) then some (Sum.inr (Sum.inl 9)) else (bif (decide (thick < e)) then some (Sum.inr (Sum.inl 9)) else some (Sum.inl ((W64 (vsum1 + e)), (W64 (vv + 1)))))))) else some (Sum.inr (Sum.inr vsum1)))
/-- sawmill/resaw.Check -/
noncomputable def resaw_Check_g (thick : Int) (kerf : Int) (parts : (List Int)) : Option Int :=
 (bif (!(resaw_isSaw_g thick kerf)) then some 9 else (bif (((parts.length : Nat) : Int) == 0) then some 3 else (bif (decide (8 < ((parts.length : Nat) : Int))) then some 4 else (Option.bind ((loopO (fun q => resaw_Check_s1 thick parts q.1 q.2) ((W64 (kerf * (W64 (((parts.length : Nat) : Int) - 1)))), 0)) : Option (Int ⊕ Int)) (Sum.elim (fun q => some q) (fun vsum => (bif (decide (thick < vsum)) then some 20 else some 0)))))))
theorem resaw_Check_w (thick : Int) (kerf : Int) (parts : (List Int)) (r : Int) (h : resaw_Check_g thick kerf parts = some r) : Holds Try.prog 15 [(I thick), (I kerf), ((encL I) parts)] [] (I r) [] := by
 unfold resaw_Check_g at h
 refine holds_fn Try.func15 rfl Try.ntmps15 rfl rfl rfl (fun lim => ?_)
 refine awp_seq (awp_go hmix (go_run' ttok 1 rfl (go_nil nd (then_norm (awp_seq (awp_seq (awp_go hmix (go_run' ttok 2 rfl ?_))))))))
 refine go_call fn34 (resaw_isSaw_w thick kerf _ rfl) rfl rfl rfl rfl rfl rfl rfl ?_
 refine go_run' ttok 1 rfl (go_nil nd (then_norm ?_))
 refine awp_cond (b := (!(resaw_isSaw_g thick kerf))) rfl (fun c1 => ?_) (fun c1 => ?_)
 ·replace h := of_bif_t h c1
  refine awp_seq (awp_go hmix (go_run' ttok 1 rfl (go_nil nd (then_norm (awp_ret (then_ret ?_))))))
  have e2 := of_some h
  subst e2
  refine ret_ret ?_
  refine fin0 ttok rfl rfl ?_
  exact (wkP_refl _ rfl)
 ·replace h := of_bif_f h c1
  refine awp_skip (then_norm (awp_seq (awp_seq (awp_go hmix (go_run' ttok 1 rfl ?_)))))
  refine go_lenT I parts ttok rfl rfl rfl rfl rfl rfl ?_
  refine go_run' ttok 1 rfl (go_nil nd (then_norm ?_))
  refine awp_cond (b := (((parts.length : Nat) : Int) == 0)) rfl (fun c3 => ?_) (fun c3 => ?_)
  ·replace h := of_bif_t h c3
   refine awp_seq (awp_go hmix (go_run' ttok 1 rfl (go_nil nd (then_norm (awp_ret (then_ret ?_))))))
   have e4 := of_some h
   subst e4
   refine ret_ret ?_
   refine fin0 ttok rfl rfl ?_
   exact (wkP_refl _ rfl)
  ·replace h := of_bif_f h c3
   refine awp_skip (then_norm (awp_seq (awp_seq (awp_go hmix (go_run' ttok 1 rfl ?_)))))
   refine go_lenT I parts ttok rfl rfl rfl rfl rfl rfl ?_
   refine go_run' ttok 1 rfl (go_nil nd (then_norm ?_))
   refine awp_cond (b := (decide (8 < ((parts.length : Nat) : Int)))) rfl (fun c5 => ?_) (fun c5 => ?_)
   ·replace h := of_bif_t h c5
    refine awp_seq (awp_go hmix (go_run' ttok 1 rfl (go_nil nd (then_norm (awp_ret (then_ret ?_))))))
    have e6 := of_some h
    subst e6
    refine ret_ret ?_
    refine fin0 ttok rfl rfl ?_
    exact (wkP_refl _ rfl)
   ·replace h := of_bif_f h c5
    refine awp_skip (then_norm (awp_seq (awp_go hmix (go_run' ttok 2 rfl ?_))))
    refine go_lenT I parts ttok rfl rfl rfl rfl rfl rfl ?_
    refine go_run' ttok 3 rfl (go_nil nd (then_norm ?_))
    obtain ⟨y, hx7, h⟩ := of_obind h
    refine awp_seqJ (X := Int) [0] [] (fun w => [(7, (I w))]) (fun w => []) (fun w => Sum.inr w = y) rfl rfl ?_ ?_
    ·skip
     refine awp_seq (awp_go hmix (go_run' ttok 1 rfl ?_))
     refine go_lenT I parts ttok rfl rfl rfl rfl rfl rfl ?_
     refine go_run' ttok 1 rfl (go_nil nd (then_norm (awp_block ?_)))
     refine awp_loopD (X := (Int × Int)) (Y := (Int ⊕ Int)) [0, 25, 26] [] (fun q => [(7, (I q.1)), (27, (I q.2))]) (fun q => []) (fun q => resaw_Check_s1 thick parts q.1 q.2) ((W64 (kerf * (W64 (((parts.length : Nat) : Int) - 1)))), 0) [] hx7 ⟨rfl, rfl, rfl, rfl, rfl, ⟨wkP_id _ rfl, wkP_id _ rfl, trivial⟩, trivial⟩ (fun x vR vz hz9 hk10 => ?_)
     obtain ⟨vsum1, vv⟩ := x
     change resaw_Check_s1 thick parts vsum1 vv = _ at hz9
     unfold resaw_Check_s1 at hz9
     refine awp_seq (awp_go hmix (go_run' ttok 1 rfl (go_nil nd (then_norm (awp_seq ?_)))))
     refine awp_cond (b := (decide (vv < ((parts.length : Nat) : Int)))) rfl (fun c11 => ?_) (fun c11 => ?_)
     ·replace hz9 := of_bif_t hz9 c11
      refine awp_skip (then_norm (awp_seq (awp_block (awp_seq (awp_go hmix ?_)))))
      obtain ⟨e, hv12, hz9⟩ := of_obind hz9
      refine go_indexT I parts vv e hv12 ttok rfl rfl rfl rfl rfl rfl rfl rfl rfl ?_
      refine go_run' ttok 2 rfl (go_nil nd (then_norm (awp_seq (awp_seq (awp_go hmix (go_run' ttok 3 rfl ?_))))))
      refine go_gcase rfl rfl rfl (fun g13 => ?_) (fun g13 => ?_)
      ·rw [g13]
       replace hz9 := of_bif_t hz9 g13
       refine go_run' ttok 4 rfl (go_nil nd (then_norm ?_))
       refine awp_cond rfl (fun tt0 => ?_) (fun h => by cases h)
       clear tt0
       refine awp_seq (awp_go hmix (go_run' ttok 1 rfl (go_nil nd (then_norm (awp_ret (then_ret (block_ret (then_ret ?_))))))))
       obtain ⟨t, hn14, hq⟩ := of_mapr' hz9
       subst hq
       have hq : t = _ := hk10
       subst hq
       refine then_ret (block_ret ?_)
       obtain ⟨t1, hn15, hq⟩ := of_mapl' hn14
       subst hq
       have hq := of_inl h
       replace hq := of_some hq
       subst hq
       refine then_ret ?_
       have e16 := of_some hn15
       subst e16
       refine ret_ret ?_
       refine fin0 ttok rfl rfl ?_
       exact (wkP_refl _ rfl)
      ·rw [g13]
       replace hz9 := of_bif_f hz9 g13
       refine go_run' ttok 4 rfl (go_nil nd (then_norm ?_))
       refine awp_cond (b := (decide (thick < e))) rfl (fun c17 => ?_) (fun c17 => ?_)
       ·replace hz9 := of_bif_t hz9 c17
        refine awp_seq (awp_go hmix (go_run' ttok 1 rfl (go_nil nd (then_norm (awp_ret (then_ret (block_ret (then_ret ?_))))))))
        obtain ⟨t2, hn18, hq⟩ := of_mapr' hz9
        subst hq
        have hq : t2 = _ := hk10
        subst hq
        refine then_ret (block_ret ?_)
        obtain ⟨t3, hn19, hq⟩ := of_mapl' hn18
        subst hq
        have hq := of_inl h
        replace hq := of_some hq
        subst hq
        refine then_ret ?_
        have e20 := of_some hn19
        subst e20
        refine ret_ret ?_
        refine fin0 ttok rfl rfl ?_
        exact (wkP_refl _ rfl)
       ·replace hz9 := of_bif_f hz9 c17
        refine awp_skip (then_norm (awp_go hmix (go_run' ttok 4 rfl (go_nil nd (block_norm (then_norm (awp_go hmix (go_run' ttok 2 rfl (go_nil nd ?_)))))))))
        have e21 := of_some hz9
        subst e21
        refine then_norm ⟨rfl, ((W64 (vsum1 + e)), (W64 (vv + 1))), [], ⟨rfl, rfl, rfl, rfl, rfl, ⟨wkP_id _ rfl, wkP_id _ rfl, trivial⟩, trivial⟩, hk10⟩
     ·replace hz9 := of_bif_f hz9 c11
      refine awp_exit (then_exit ?_)
      obtain ⟨t4, hn22, hq⟩ := of_mapr' hz9
      subst hq
      have hq : t4 = _ := hk10
      subst hq
      refine then_exit (block_here ?_)
      have e23 := of_some hn22
      refine then_norm ⟨rfl, vsum1, [], ⟨rfl, rfl, rfl, rfl, rfl, ⟨wkP_id _ rfl, trivial⟩, trivial⟩, e23⟩
    ·intro vsum hw8
     subst hw8
     replace h := of_inr h
     refine awp_seq (awp_seq (awp_go hmix (go_run' ttok 3 rfl (go_nil nd (then_norm ?_)))))
     refine awp_cond (b := (decide (thick < vsum))) rfl (fun c24 => ?_) (fun c24 => ?_)
     ·replace h := of_bif_t h c24
      refine awp_seq (awp_go hmix (go_run' ttok 1 rfl (go_nil nd (then_norm (awp_ret (then_ret ?_))))))
      have e25 := of_some h
      subst e25
      refine ret_ret ?_
      refine fin0 ttok rfl rfl ?_
      exact (wkP_refl _ rfl)
     ·replace h := of_bif_f h c24
      refine awp_skip (then_norm (awp_seq (awp_go hmix (go_run' ttok 1 rfl (go_nil nd (then_norm (awp_ret ?_)))))))
      have e26 := of_some h
      subst e26
      refine ret_ret ?_
      refine fin0 ttok rfl rfl ?_
      exact (wkP_refl _ rfl)
noncomputable def resaw_Check_cs1 (N : Nat) (thick : Int) (parts : (List Int)) (vsum1 : Int) (vv : Int) : Option ((Int × Int) ⊕ (Int ⊕ Int)) :=
 (bif (decide (vv < ((parts.length : Nat) : Int))) then (Option.bind (getI parts vv) (fun e => (bif (decide (e < 1)) then some (Sum.inr (Sum.inl 9)) else (bif (decide (thick < e)) then some (Sum.inr (Sum.inl 9)) else some (Sum.inl ((W64 (vsum1 + e)), (W64 (vv + 1)))))))) else some (Sum.inr (Sum.inr vsum1)))
theorem resaw_Check_cs1_le (N : Nat) (thick : Int) (parts : (List Int)) (vsum1 : Int) (vv : Int) : OLe (resaw_Check_cs1 N thick parts vsum1 vv) (resaw_Check_s1 thick parts vsum1 vv) := by
 unfold resaw_Check_cs1 resaw_Check_s1
 repeat' (first | exact ole_rfl | refine ole_bif ?_ ?_ | refine ole_bind ?_ (fun _ => ?_) | refine ole_let (fun _ => ?_) | refine ole_map ?_ | refine ole_elim (fun _ => ?_) (fun _ => ?_) | refine ole_loop (fun _ => ?_))
noncomputable def resaw_Check_c (N : Nat) (thick : Int) (kerf : Int) (parts : (List Int)) : Option Int :=
 (bif (!(resaw_isSaw_g thick kerf)) then some 9 else (bif (((parts.length : Nat) : Int) == 0) then some 3 else (bif (decide (8 < ((parts.length : Nat) : Int))) then some 4 else (Option.bind ((iterX N (fun q => resaw_Check_cs1 N thick parts q.1 q.2) ((W64 (kerf * (W64 (((parts.length : Nat) : Int) - 1)))), 0)) : Option (Int ⊕ Int)) (Sum.elim (fun q => some q) (fun vsum => (bif (decide (thick < vsum)) then some 20 else some 0)))))))
theorem resaw_Check_le (N : Nat) (thick : Int) (kerf : Int) (parts : (List Int)) : OLe (resaw_Check_c N thick kerf parts) (resaw_Check_g thick kerf parts) := by
 unfold resaw_Check_c resaw_Check_g
 repeat' (first | exact ole_rfl | exact resaw_Check_cs1_le _ _ _ _ _ | refine ole_bif ?_ ?_ | refine ole_bind ?_ (fun _ => ?_) | refine ole_let (fun _ => ?_) | refine ole_map ?_ | refine ole_elim (fun _ => ?_) (fun _ => ?_) | refine ole_loop (fun _ => ?_))

/-- sawmill/resaw.Spans$1 -/
noncomputable def resaw_Spans_1_g (l : (List Sp)) (vsize : Int) (p2 : Int) (p3 : Int) : Option ((List Sp) × Int) :=
 (bif (decide ((min (W64 (p2 + vsize)) p3) ≤ p2)) then some (l, p2) else (Option.bind (appO 16 l ([(⟨p2, (min (W64 (p2 + vsize)) p3)⟩ : Sp)])) (fun l1 => some (l1, (min (W64 (p2 + vsize)) p3)))))
theorem resaw_Spans_1_w (l : (List Sp)) (vsize : Int) (p2 : Int) (p3 : Int) (r : ((List Sp) × Int)) (h : resaw_Spans_1_g l vsize p2 p3 = some r) : Holds Try.prog 33 [(.arr 1300 0 l.length), (I vsize), (.ref 1000 0 0), (.ref 1001 0 0)] [(1000, some ⟨3, 1, [(I p2)]⟩), (1001, some ⟨3, 1, [(I p3)]⟩), (1300, some ⟨29, 2, l.map encSp⟩)] (.arr 998 0 r.1.length) [(998, some ⟨29, 2, r.1.map encSp⟩), (1000, some ⟨3, 1, [(I r.2)]⟩), (1001, some ⟨3, 1, [(I p3)]⟩)] := by
 unfold resaw_Spans_1_g at h
 refine holds_fn Try.func33 rfl Try.ntmps33 rfl rfl rfl (fun lim => ?_)
 refine awp_seq (awp_go hmix (go_run' ttok 1 rfl (go_nil nd (then_norm (awp_seq (awp_go hmix (go_run' ttok 9 rfl (go_nil nd (then_norm (awp_seq (awp_seq (awp_go hmix (go_run' ttok 5 rfl (go_nil nd (then_norm ?_)))))))))))))))
 refine awp_cond (b := (decide ((min (W64 (p2 + vsize)) p3) ≤ p2))) rfl (fun c1 => ?_) (fun c1 => ?_)
 ·replace h := of_bif_t h c1
  refine awp_seq (awp_go hmix (go_run' ttok 2 rfl (go_nil nd (then_norm (awp_ret (then_ret ?_))))))
  have e2 := of_some h
  subst e2
  refine ret_ret ?_
  exact finB [(998, some 1300), (1000, some 1000), (1001, some 1001)] ttok rfl rfl rfl rfl ⟨rfl, rfl, (by first | rfl | (simp [setI]; done) | omega | (dsimp only; omega) | (simp [setI]; omega))⟩ ⟨⟨_, rfl, rfl, rfl, wkX_map (enc := encSp) l (fun _ => rfl)⟩, ⟨_, rfl, rfl, rfl, .inl ⟨rfl, nr_one rfl⟩⟩, ⟨_, rfl, rfl, rfl, .inl ⟨rfl, nr_one rfl⟩⟩, trivial⟩
 ·replace h := of_bif_f h c1
  refine awp_skip (then_norm (awp_seq (awp_go hmix (go_run' ttok 3 rfl (go_nil nd (then_norm (awp_seq (awp_go hmix (go_run' ttok 3 rfl ?_)))))))))
  obtain ⟨l1, hv3, h⟩ := of_obind h
  refine go_appT encSp l ([(⟨p2, (min (W64 (p2 + vsize)) p3)⟩ : Sp)]) l1 hv3 (fun _ => rfl) (by first | rfl | (simp [setI]; done) | omega | (dsimp only; omega) | (simp [setI]; omega)) (by first | rfl | (simp [setI]; done) | omega | (dsimp only; omega) | (simp [setI]; omega)) ttok rfl rfl rfl rfl rfl rfl rfl rfl rfl rfl rfl rfl rfl rfl rfl rfl rfl ?_
  refine go_run' ttok 1 rfl (go_nil nd (then_norm (awp_ret ?_)))
  have e4 := of_some h
  subst e4
  refine ret_ret ?_
  exact finB [(998, some 26), (1000, some 1000), (1001, some 1001)] ttok rfl rfl rfl rfl ⟨rfl, rfl, (by first | rfl | (simp [setI]; done) | omega | (dsimp only; omega) | (simp [setI]; omega))⟩ ⟨⟨_, rfl, rfl, rfl, wkX_map (enc := encSp) l1 (fun _ => rfl)⟩, ⟨_, rfl, rfl, rfl, .inl ⟨rfl, nr_one rfl⟩⟩, ⟨_, rfl, rfl, rfl, .inl ⟨rfl, nr_one rfl⟩⟩, trivial⟩
noncomputable def resaw_Spans_1_c (N : Nat) (l : (List Sp)) (vsize : Int) (p2 : Int) (p3 : Int) : Option ((List Sp) × Int) :=
 (bif (decide ((min (W64 (p2 + vsize)) p3) ≤ p2)) then some (l, p2) else (Option.bind (appO 16 l ([(⟨p2, (min (W64 (p2 + vsize)) p3)⟩ : Sp)])) (fun l1 => some (l1, (min (W64 (p2 + vsize)) p3)))))
theorem resaw_Spans_1_le (N : Nat) (l : (List Sp)) (vsize : Int) (p2 : Int) (p3 : Int) : OLe (resaw_Spans_1_c N l vsize p2 p3) (resaw_Spans_1_g l vsize p2 p3) := by
 unfold resaw_Spans_1_c resaw_Spans_1_g
 repeat' (first | exact ole_rfl | refine ole_bif ?_ ?_ | refine ole_bind ?_ (fun _ => ?_) | refine ole_let (fun _ => ?_) | refine ole_map ?_ | refine ole_elim (fun _ => ?_) (fun _ => ?_) | refine ole_loop (fun _ => ?_))

noncomputable def resaw_Spans_s1 (thick : Int) (kerf : Int) (parts : (List Int)) (boards1 : (List Sp)) (dust1 : (List Sp)) (vv : Int) (vat1 : Int) : Option (((List Sp) × (List Sp) × Int × Int) ⊕ ((List Sp) × (List Sp) × Int)) :=
 (bif (decide (vv < ((parts.length : Nat) : Int))) then (Option.bind (getI parts vv) (fun e => (Option.bind (resaw_Spans_1_g boards1 e vat1 thick) (fun sv => (Option.bind (resaw_Spans_1_g dust1 kerf sv.2 thick) (fun sv1 => some (Sum.inl (sv.1, sv1.1, (W64 (vv + 1)), sv1.2)))))))) else some (Sum.inr (boards1, dust1, vat1)))
/-- sawmill/resaw.Spans -/
noncomputable def resaw_Spans_g (thick : Int) (kerf : Int) (parts : (List Int)) : Option ((List Sp) × (List Sp) × Sp × Int) :=
 (Option.bind (resaw_Check_g thick kerf parts) (fun cv => (bif (cv != 0) then some ([], [], (⟨0, 0⟩ : Sp), cv) else (Option.bind ((loopO (fun q => resaw_Spans_s1 thick kerf parts q.1 q.2.1 q.2.2.1 q.2.2.2) ([], [], 0, 0)) : Option ((List Sp) × (List Sp) × Int)) (fun w1 => (bif (decide (w1.2.2 < thick)) then some (w1.1, w1.2.1, (⟨w1.2.2, thick⟩ : Sp), 0) else some (w1.1, w1.2.1, (⟨0, 0⟩ : Sp), 0)))))))
theorem resaw_Spans_w (thick : Int) (kerf : Int) (parts : (List Int)) (r : ((List Sp) × (List Sp) × Sp × Int)) (h : resaw_Spans_g thick kerf parts = some r) : Holds Try.prog 13 [(I thick), (I kerf), ((encL I) parts)] [] (.tup [((encL encSp) r.1), ((encL encSp) r.2.1), (encSp r.2.2.1), (I r.2.2.2)]) [] := by
 unfold resaw_Spans_g at h
 refine holds_fn Try.func13 rfl Try.ntmps13 rfl rfl rfl (fun lim => ?_)
 refine awp_seq (awp_go hmix (go_run' ttok 5 rfl (go_nil nd (then_norm (awp_seq (awp_seq (awp_go hmix (go_run' ttok 3 rfl ?_))))))))
 obtain ⟨cv, hv1, h⟩ := of_obind h
 refine go_call fn15 (resaw_Check_w thick kerf parts cv hv1) rfl rfl rfl rfl rfl rfl rfl ?_
 refine go_run' ttok 1 rfl (go_nil nd (then_norm (awp_seq (awp_go hmix (go_run' ttok 2 rfl (go_nil nd (then_norm ?_)))))))
 refine awp_cond (b := (cv != 0)) rfl (fun c2 => ?_) (fun c2 => ?_)
 ·replace h := of_bif_t h c2
  refine awp_seq (awp_go hmix (go_run' ttok 6 rfl (go_nil nd (then_norm (awp_ret (then_ret ?_))))))
  have e3 := of_some h
  subst e3
  refine ret_ret ?_
  refine fin0 ttok rfl rfl ?_
  exact ⟨wkP_nilm, wkP_nilm, (wkP_refl _ rfl), (wkP_refl _ rfl), trivial⟩
 ·replace h := of_bif_f h c2
  refine awp_skip (then_norm (awp_seq (awp_go hmix (go_run' ttok 2 rfl (go_nil nd (then_norm (awp_seq (awp_go hmix (go_run' ttok 2 rfl (go_nil nd (then_norm ?_)))))))))))
  obtain ⟨y, hx4, h⟩ := of_obind h
  refine awp_seqJ (X := ((List Sp) × (List Sp) × Int)) [3, 8, 11] [3, 8] (fun w => [(6, (.arr 6 0 w.1.length)), (7, (.arr 7 0 w.2.1.length))]) (fun w => [(6, some ⟨29, 2, w.1.map encSp⟩), (7, some ⟨29, 2, w.2.1.map encSp⟩), (11, some ⟨3, 1, [(I w.2.2)]⟩)]) (fun w => w = y) rfl rfl ?_ ?_
  ·skip
   refine awp_seq (awp_go hmix (go_run' ttok 1 rfl ?_))
   refine go_lenT I parts ttok rfl rfl rfl rfl rfl rfl ?_
   refine go_run' ttok 1 rfl (go_nil nd (then_norm (awp_block ?_)))
   refine awp_loopD (X := ((List Sp) × (List Sp) × Int × Int)) (Y := ((List Sp) × (List Sp) × Int)) [1, 3, 8, 11, 12, 24, 25] [3, 8] (fun q => [(6, (.arr 6 0 q.1.length)), (7, (.arr 7 0 q.2.1.length)), (26, (I q.2.2.1))]) (fun q => [(6, some ⟨29, 2, q.1.map encSp⟩), (7, some ⟨29, 2, q.2.1.map encSp⟩), (11, some ⟨3, 1, [(I q.2.2.2)]⟩)]) (fun q => resaw_Spans_s1 thick kerf parts q.1 q.2.1 q.2.2.1 q.2.2.2) ([], [], 0, 0) [(6, none), (7, none), (11, some 11), (3, some 3), (8, some 8)] hx4 ⟨rfl, rfl, rfl, rfl, rfl, ⟨⟨rfl, rfl, (by first | rfl | (simp [setI]; done) | omega | (dsimp only; omega) | (simp [setI]; omega))⟩, ⟨rfl, rfl, (by first | rfl | (simp [setI]; done) | omega | (dsimp only; omega) | (simp [setI]; omega))⟩, wkP_id _ rfl, trivial⟩, ⟨rfl, rfl, ⟨_, rfl, rfl, rfl, .inl ⟨rfl, nr_one rfl⟩⟩, trivial⟩⟩ (fun x vR vz hz6 hk7 => ?_)
   obtain ⟨boards1, dust1, vv, vat1⟩ := x
   change resaw_Spans_s1 thick kerf parts boards1 dust1 vv vat1 = _ at hz6
   unfold resaw_Spans_s1 at hz6
   refine awp_seq (awp_go hmix (go_run' ttok 1 rfl (go_nil nd (then_norm (awp_seq ?_)))))
   refine awp_cond (b := (decide (vv < ((parts.length : Nat) : Int)))) rfl (fun c8 => ?_) (fun c8 => ?_)
   ·replace hz6 := of_bif_t hz6 c8
    refine awp_skip (then_norm (awp_seq (awp_block (awp_seq (awp_go hmix ?_)))))
    obtain ⟨e, hv9, hz6⟩ := of_obind hz6
    refine go_indexT I parts vv e hv9 ttok rfl rfl rfl rfl rfl rfl rfl rfl rfl ?_
    refine go_run' ttok 2 rfl (go_nil nd (then_norm (awp_seq (awp_go hmix (go_run' ttok 3 rfl ?_)))))
    obtain ⟨sv, hv10, hz6⟩ := of_obind hz6
    refine go_callM (.arr 33 0 sv.1.length) [] [(33, some ⟨29, 2, sv.1.map encSp⟩), (11, some ⟨3, 1, [(I sv.2)]⟩), (3, some ⟨3, 1, [(I thick)]⟩)] [(1000, some 11), (1001, some 3), (1300, some 6)] [(33, some 998), (11, some 1000), (3, some 1001)] fn33 (resaw_Spans_1_w boards1 e vat1 thick sv hv10) rfl rfl rfl rfl rfl trivial ⟨⟨rfl, rfl, (by first | rfl | (simp [setI]; done) | omega | (dsimp only; omega) | (simp [setI]; omega))⟩, (wkP_refl _ rfl), ⟨rfl, rfl, rfl⟩, ⟨rfl, rfl, rfl⟩, trivial⟩ rfl rfl ⟨⟨_, rfl, rfl, rfl, .inl ⟨rfl, nr_one rfl⟩⟩, ⟨_, rfl, rfl, rfl, .inl ⟨rfl, nr_one rfl⟩⟩, ⟨_, rfl, rfl, rfl, wkX_map (enc := encSp) boards1 (fun _ => rfl)⟩, trivial⟩ rfl rfl ⟨⟨_, rfl, rfl, rfl, wkX_map (enc := encSp) sv.1 (fun _ => rfl)⟩, ⟨_, rfl, rfl, rfl, .inl ⟨rfl, nr_one rfl⟩⟩, ⟨_, rfl, rfl, rfl, .inl ⟨rfl, nr_one rfl⟩⟩, trivial⟩ ⟨rfl, rfl, (by first | rfl | (simp [setI]; done) | omega | (dsimp only; omega) | (simp [setI]; omega))⟩ rfl (fun h => absurd rfl h) rfl rfl rfl ?_
    refine go_run' ttok 1 rfl (go_nil nd (then_norm (awp_go hmix (go_run' ttok 3 rfl ?_))))
    obtain ⟨sv1, hv11, hz6⟩ := of_obind hz6
    refine go_callM (.arr 37 0 sv1.1.length) [] [(37, some ⟨29, 2, sv1.1.map encSp⟩), (11, some ⟨3, 1, [(I sv1.2)]⟩), (3, some ⟨3, 1, [(I thick)]⟩)] [(1000, some 11), (1001, some 3), (1300, some 7)] [(37, some 998), (11, some 1000), (3, some 1001)] fn33 (resaw_Spans_1_w dust1 kerf sv.2 thick sv1 hv11) rfl rfl rfl rfl rfl trivial ⟨⟨rfl, rfl, (by first | rfl | (simp [setI]; done) | omega | (dsimp only; omega) | (simp [setI]; omega))⟩, (wkP_refl _ rfl), ⟨rfl, rfl, rfl⟩, ⟨rfl, rfl, rfl⟩, trivial⟩ rfl rfl ⟨⟨_, rfl, rfl, rfl, .inl ⟨rfl, nr_one rfl⟩⟩, ⟨_, rfl, rfl, rfl, .inl ⟨rfl, nr_one rfl⟩⟩, ⟨_, rfl, rfl, rfl, wkX_map (enc := encSp) dust1 (fun _ => rfl)⟩, trivial⟩ rfl rfl ⟨⟨_, rfl, rfl, rfl, wkX_map (enc := encSp) sv1.1 (fun _ => rfl)⟩, ⟨_, rfl, rfl, rfl, .inl ⟨rfl, nr_one rfl⟩⟩, ⟨_, rfl, rfl, rfl, .inl ⟨rfl, nr_one rfl⟩⟩, trivial⟩ ⟨rfl, rfl, (by first | rfl | (simp [setI]; done) | omega | (dsimp only; omega) | (simp [setI]; omega))⟩ rfl (fun h => absurd rfl h) rfl rfl rfl ?_
    refine go_run' ttok 1 rfl (go_nil nd (block_norm (then_norm (awp_go hmix (go_run' ttok 2 rfl (go_nil nd ?_))))))
    have e12 := of_some hz6
    subst e12
    refine then_norm ⟨rfl, (sv.1, sv1.1, (W64 (vv + 1)), sv1.2), [(6, some 33), (7, some 37), (11, some 11), (3, some 3), (8, some 8)], ⟨rfl, rfl, rfl, rfl, rfl, ⟨⟨rfl, rfl, (by first | rfl | (simp [setI]; done) | omega | (dsimp only; omega) | (simp [setI]; omega))⟩, ⟨rfl, rfl, (by first | rfl | (simp [setI]; done) | omega | (dsimp only; omega) | (simp [setI]; omega))⟩, wkP_id _ rfl, trivial⟩, ⟨⟨_, rfl, rfl, rfl, wkX_map (enc := encSp) sv.1 (fun _ => rfl)⟩, ⟨_, rfl, rfl, rfl, wkX_map (enc := encSp) sv1.1 (fun _ => rfl)⟩, ⟨_, rfl, rfl, rfl, .inl ⟨rfl, nr_one rfl⟩⟩, trivial⟩⟩, hk7⟩
   ·replace hz6 := of_bif_f hz6 c8
    refine awp_exit (then_exit ?_)
    obtain ⟨t, hn13, hq⟩ := of_mapr' hz6
    subst hq
    have hq : t = _ := hk7
    subst hq
    refine then_exit (block_here ?_)
    have e14 := of_some hn13
    refine then_norm ⟨rfl, (boards1, dust1, vat1), [(6, some 6), (7, some 7), (11, some 11), (3, some 3), (8, some 8)], ⟨rfl, rfl, rfl, rfl, rfl, ⟨⟨rfl, rfl, (by first | rfl | (simp [setI]; done) | omega | (dsimp only; omega) | (simp [setI]; omega))⟩, ⟨rfl, rfl, (by first | rfl | (simp [setI]; done) | omega | (dsimp only; omega) | (simp [setI]; omega))⟩, trivial⟩, ⟨⟨_, rfl, rfl, rfl, wkX_map (enc := encSp) boards1 (fun _ => rfl)⟩, ⟨_, rfl, rfl, rfl, wkX_map (enc := encSp) dust1 (fun _ => rfl)⟩, ⟨_, rfl, rfl, rfl, .inl ⟨rfl, nr_one rfl⟩⟩, trivial⟩⟩, e14⟩
  ·intro w hw5
   subst hw5
   obtain ⟨boards, dust, vat⟩ := w
   refine awp_seq (awp_seq (awp_go hmix (go_run' ttok 3 rfl (go_nil nd (then_norm ?_)))))
   refine awp_cond (b := (decide (vat < thick))) rfl (fun c15 => ?_) (fun c15 => ?_)
   ·replace h := of_bif_t h c15
    refine awp_go hmix (go_run' ttok 4 rfl (go_nil nd (then_norm (awp_seq (awp_go hmix (go_run' ttok 7 rfl ?_))))))
    refine go_nil (fun _ => by kernel_rfl) ?_
    refine then_norm ?_
    refine awp_freezeM [8, 9] [8] [(6, some ⟨29, 2, boards.map encSp⟩), (7, some ⟨29, 2, dust.map encSp⟩)] [(8, some 8)] [(6, (encL encSp boards)), (7, (encL encSp dust))] [] rfl rfl rfl rfl rfl ⟨rfl, by decide, rfl, by decide, trivial⟩ ⟨(wkP_lend rfl (by first | rfl | (simp [setI]; done) | omega | (dsimp only; omega) | (simp [setI]; omega)) (fun _ => rfl)), (wkP_lend rfl (by first | rfl | (simp [setI]; done) | omega | (dsimp only; omega) | (simp [setI]; omega)) (fun _ => rfl)), trivial⟩ trivial ?_
    refine awp_ret ?_
    have e16 := of_some h
    subst e16
    refine ret_ret ?_
    refine fin0 ttok rfl rfl ?_
    exact wkP_refl _ rfl
   ·replace h := of_bif_f h c15
    refine awp_skip (then_norm (awp_seq (awp_go hmix (go_run' ttok 7 rfl ?_))))
    refine go_nil (fun _ => by kernel_rfl) ?_
    refine then_norm ?_
    refine awp_freezeM [8, 9] [8] [(6, some ⟨29, 2, boards.map encSp⟩), (7, some ⟨29, 2, dust.map encSp⟩)] [(8, some 8)] [(6, (encL encSp boards)), (7, (encL encSp dust))] [] rfl rfl rfl rfl rfl ⟨rfl, by decide, rfl, by decide, trivial⟩ ⟨(wkP_lend rfl (by first | rfl | (simp [setI]; done) | omega | (dsimp only; omega) | (simp [setI]; omega)) (fun _ => rfl)), (wkP_lend rfl (by first | rfl | (simp [setI]; done) | omega | (dsimp only; omega) | (simp [setI]; omega)) (fun _ => rfl)), trivial⟩ trivial ?_
    refine awp_ret ?_
    have e17 := of_some h
    subst e17
    refine ret_ret ?_
    refine fin0 ttok rfl rfl ?_
    exact wkP_refl _ rfl
noncomputable def resaw_Spans_cs1 (N : Nat) (thick : Int) (kerf : Int) (parts : (List Int)) (boards1 : (List Sp)) (dust1 : (List Sp)) (vv : Int) (vat1 : Int) : Option (((List Sp) × (List Sp) × Int × Int) ⊕ ((List Sp) × (List Sp) × Int)) :=
 (bif (decide (vv < ((parts.length : Nat) : Int))) then (Option.bind (getI parts vv) (fun e => (Option.bind ((resaw_Spans_1_c N) boards1 e vat1 thick) (fun sv => (Option.bind ((resaw_Spans_1_c N) dust1 kerf sv.2 thick) (fun sv1 => some (Sum.inl (sv.1, sv1.1, (W64 (vv + 1)), sv1.2)))))))) else some (Sum.inr (boards1, dust1, vat1)))
theorem resaw_Spans_cs1_le (N : Nat) (thick : Int) (kerf : Int) (parts : (List Int)) (boards1 : (List Sp)) (dust1 : (List Sp)) (vv : Int) (vat1 : Int) : OLe (resaw_Spans_cs1 N thick kerf parts boards1 dust1 vv vat1) (resaw_Spans_s1 thick kerf parts boards1 dust1 vv vat1) := by
 unfold resaw_Spans_cs1 resaw_Spans_s1
 repeat' (first | exact ole_rfl | exact resaw_Check_le _ _ _ _ | exact resaw_Spans_1_le _ _ _ _ _ | refine ole_bif ?_ ?_ | refine ole_bind ?_ (fun _ => ?_) | refine ole_let (fun _ => ?_) | refine ole_map ?_ | refine ole_elim (fun _ => ?_) (fun _ => ?_) | refine ole_loop (fun _ => ?_))
noncomputable def resaw_Spans_c (N : Nat) (thick : Int) (kerf : Int) (parts : (List Int)) : Option ((List Sp) × (List Sp) × Sp × Int) :=
 (Option.bind ((resaw_Check_c N) thick kerf parts) (fun cv => (bif (cv != 0) then some ([], [], (⟨0, 0⟩ : Sp), cv) else (Option.bind ((iterX N (fun q => resaw_Spans_cs1 N thick kerf parts q.1 q.2.1 q.2.2.1 q.2.2.2) ([], [], 0, 0)) : Option ((List Sp) × (List Sp) × Int)) (fun w1 => (bif (decide (w1.2.2 < thick)) then some (w1.1, w1.2.1, (⟨w1.2.2, thick⟩ : Sp), 0) else some (w1.1, w1.2.1, (⟨0, 0⟩ : Sp), 0)))))))
theorem resaw_Spans_le (N : Nat) (thick : Int) (kerf : Int) (parts : (List Int)) : OLe (resaw_Spans_c N thick kerf parts) (resaw_Spans_g thick kerf parts) := by
 unfold resaw_Spans_c resaw_Spans_g
 repeat' (first | exact ole_rfl | exact resaw_Check_le _ _ _ _ | exact resaw_Spans_1_le _ _ _ _ _ | exact resaw_Spans_cs1_le _ _ _ _ _ _ _ _ | refine ole_bif ?_ ?_ | refine ole_bind ?_ (fun _ => ?_) | refine ole_let (fun _ => ?_) | refine ole_map ?_ | refine ole_elim (fun _ => ?_) (fun _ => ?_) | refine ole_loop (fun _ => ?_))

/-- math/bits.Mul32 -/
noncomputable def bits_Mul32_g (x : Int) (y : Int) : (Int × Int) :=
 ((IntKind.u32.wrap (bShr .u64 (WU64 ((WU64 x) * (WU64 y))) 32)), (IntKind.u32.wrap (WU64 ((WU64 x) * (WU64 y)))))
theorem bits_Mul32_w (x : Int) (y : Int) (r : (Int × Int)) (h : bits_Mul32_g x y = r) : Holds Try.prog 84 [((fun n => AV.sc (.int .u32 n)) x), ((fun n => AV.sc (.int .u32 n)) y)] [] (.tup [((fun n => AV.sc (.int .u32 n)) r.1), ((fun n => AV.sc (.int .u32 n)) r.2)]) [] := by
 unfold bits_Mul32_g at h
 refine holds_fn Try.func84 rfl Try.ntmps84 rfl rfl rfl (fun lim => ?_)
 refine awp_seq (awp_go hmix (go_run' ttok 2 rfl (go_nil nd (then_norm (awp_seq (awp_go hmix (go_run' ttok 6 rfl (go_nil nd (then_norm (awp_seq (awp_go hmix (go_run' ttok 7 rfl (go_nil nd (then_norm (awp_ret ?_)))))))))))))))
 have e1 := h
 subst e1
 refine ret_ret ?_
 refine fin0 ttok rfl rfl ?_
 exact wkP_refl _ rfl

/-- math/bits.Mul64 -/
noncomputable def bits_Mul64_g (x : Int) (y : Int) : (Int × Int) :=
 ((WU64 ((WU64 ((WU64 ((bShr .u64 x 32) * (bShr .u64 y 32))) + (bShr .u64 (WU64 ((WU64 ((bShr .u64 x 32) * (bAnd .u64 y 4294967295))) + (bShr .u64 (WU64 ((bAnd .u64 x 4294967295) * (bAnd .u64 y 4294967295))) 32))) 32))) + (bShr .u64 (WU64 ((bAnd .u64 (WU64 ((WU64 ((bShr .u64 x 32) * (bAnd .u64 y 4294967295))) + (bShr .u64 (WU64 ((bAnd .u64 x 4294967295) * (bAnd .u64 y 4294967295))) 32))) 4294967295) + (WU64 ((bAnd .u64 x 4294967295) * (bShr .u64 y 32))))) 32))), (WU64 (x * y)))
theorem bits_Mul64_w (x : Int) (y : Int) (r : (Int × Int)) (h : bits_Mul64_g x y = r) : Holds Try.prog 85 [(U64 x), (U64 y)] [] (.tup [(U64 r.1), (U64 r.2)]) [] := by
 unfold bits_Mul64_g at h
 refine holds_fn Try.func85 rfl Try.ntmps85 rfl rfl rfl (fun lim => ?_)
 refine awp_seq (awp_go hmix (go_run' ttok 2 rfl (go_nil nd (then_norm (awp_seq (awp_go hmix (go_run' ttok 3 rfl (go_nil nd (then_norm (awp_seq (awp_go hmix (go_run' ttok 3 rfl (go_nil nd (then_norm (awp_seq (awp_go hmix (go_run' ttok 3 rfl (go_nil nd (then_norm (awp_seq (awp_go hmix (go_run' ttok 3 rfl (go_nil nd (then_norm (awp_seq (awp_go hmix (go_run' ttok 4 rfl (go_nil nd (then_norm (awp_seq (awp_go hmix (go_run' ttok 7 rfl (go_nil nd (then_norm (awp_seq (awp_go hmix (go_run' ttok 3 rfl (go_nil nd (then_norm (awp_seq (awp_go hmix (go_run' ttok 3 rfl (go_nil nd (then_norm (awp_seq (awp_go hmix (go_run' ttok 6 rfl (go_nil nd (then_norm (awp_seq (awp_go hmix (go_run' ttok 9 rfl (go_nil nd (then_norm (awp_seq (awp_go hmix (go_run' ttok 4 rfl (go_nil nd (then_norm (awp_ret ?_))))))))))))))))))))))))))))))))))))))))))))))))))))))))))))
 have e1 := h
 subst e1
 refine ret_ret ?_
 refine fin0 ttok rfl rfl ?_
 exact wkP_refl _ rfl

/-- math/bits.Mul -/
noncomputable def bits_Mul_g (x : Int) (y : Int) : (Int × Int) :=
 (letB (bits_Mul64_g x y) (fun mv => (mv.1, mv.2)))
theorem bits_Mul_w (x : Int) (y : Int) (r : (Int × Int)) (h : bits_Mul_g x y = r) : Holds Try.prog 64 [(U64 x), (U64 y)] [] (.tup [(U64 r.1), (U64 r.2)]) [] := by
 unfold bits_Mul_g at h
 refine holds_fn Try.func64 rfl Try.ntmps64 rfl rfl rfl (fun lim => ?_)
 refine awp_seq (awp_go hmix (go_run' ttok 2 rfl (go_nil nd (then_norm (awp_seq ?_)))))
 refine awp_cond rfl (fun h => by cases h) (fun tt0 => ?_)
 clear tt0
 refine awp_skip (then_norm (awp_seq (awp_go hmix (go_run' ttok 2 rfl ?_))))
 obtain ⟨mv, hv1, h⟩ := of_let h
 refine go_call fn85 (bits_Mul64_w x y mv hv1) rfl rfl rfl rfl rfl rfl rfl ?_
 refine go_run' ttok 5 rfl (go_nil nd (then_norm (awp_seq (awp_go hmix (go_run' ttok 4 rfl (go_nil nd (then_norm (awp_ret ?_))))))))
 have e2 := h
 subst e2
 refine ret_ret ?_
 refine fin0 ttok rfl rfl ?_
 exact wkP_refl _ rfl

noncomputable def slices_Repeat___int_int__s1 (n : Int) (newslice1 : (List Int)) : Option ((Int × (List Int)) ⊕ (List Int)) :=
 (bif (decide (n < ((newslice1.length : Nat) : Int))) then (bif (decide (0 ≤ n) && (decide (n < ((newslice1.length : Nat) : Int)) && (decide (n ≤ ((newslice1.length : Nat) : Int)) && decide (((newslice1.length : Nat) : Int) ≤ ((newslice1.length : Nat) : Int))))) then (bif (decide (0 ≤ (0 : Int)) && (decide ((0 : Int) < ((newslice1.length : Nat) : Int)) && (decide ((0 : Int) ≤ n) && decide (n ≤ ((newslice1.length : Nat) : Int))))) then (bif (Nat.ble (n.toNat + (((newslice1.length : Nat) : Int).toNat - n.toNat)) newslice1.length && (Nat.blt 0 (((newslice1.length : Nat) : Int).toNat - n.toNat) && !((newslice1.drop (0 : Int).toNat).take (n.toNat - (0 : Int).toNat)).isEmpty)) then (bif (Nat.ble ((0 : Int).toNat + (n.toNat - (0 : Int).toNat)) newslice1.length) then (letB (cpy newslice1 ((newslice1.drop (0 : Int).toNat).take (n.toNat - (0 : Int).toNat)) n.toNat (((newslice1.length : Nat) : Int).toNat - n.toNat)) (fun l1 => some (Sum.inl ((W64 (n + ((min ((newslice1.drop (0 : Int).toNat).take (n.toNat - (0 : Int).toNat)).length (((newslice1.length : Nat) : Int).toNat - n.toNat) : Nat) : Int))), l1)))) else none) else none) else none) else none) else some (Sum.inr newslice1))
/-- slices.Repeat[[]int,int] -/
noncomputable def slices_Repeat___int_int__g (x : (List Int)) (vcount : Int) : Option (List Int) :=
 (bif (decide (vcount < 0)) then none else (letB (bits_Mul_g (WU64 ((x.length : Nat) : Int)) (WU64 vcount)) (fun mv => (bif (decide (0 < mv.1)) then none else (bif (decide (9223372036854775807 < mv.2)) then none else (Option.bind (mkO 8 0 (W64 mv.2)) (fun m => (bif (Nat.ble (0 + m.length) m.length && (Nat.blt 0 m.length && !x.isEmpty)) then (letB (cpy m x 0 m.length) (fun l => (Option.bind ((loopO (fun q => slices_Repeat___int_int__s1 q.1 q.2) (((min x.length m.length : Nat) : Int), l)) : Option (List Int)) (fun newslice => some newslice)))) else none))))))))
theorem slices_Repeat___int_int__w (x : (List Int)) (vcount : Int) (r : (List Int)) (h : slices_Repeat___int_int__g x vcount = some r) : Holds Try.prog 44 [((encL I) x), (I vcount)] [] (.arr 998 0 r.length) [(998, some ⟨3, 1, r.map I⟩)] := by
 unfold slices_Repeat___int_int__g at h
 refine holds_fn Try.func44 rfl Try.ntmps44 rfl rfl rfl (fun lim => ?_)
 refine awp_seq (awp_go hmix (go_run' ttok 1 rfl (go_nil nd (then_norm (awp_seq (awp_seq (awp_go hmix (go_run' ttok 2 rfl (go_nil nd (then_norm ?_))))))))))
 refine awp_cond (b := (decide (vcount < 0))) rfl (fun c1 => ?_) (fun c1 => ?_)
 ·replace h := of_bif_t h c1
  cases h
 ·replace h := of_bif_f h c1
  refine awp_skip (then_norm (awp_seq (awp_go hmix (go_run' ttok 1 rfl ?_))))
  refine go_lenT I x ttok rfl rfl rfl rfl rfl rfl ?_
  refine go_run' ttok 3 rfl ?_
  obtain ⟨mv, hv2, h⟩ := of_let h
  refine go_call fn64 (bits_Mul_w (WU64 ((x.length : Nat) : Int)) (WU64 vcount) mv hv2) rfl rfl rfl rfl rfl rfl rfl ?_
  refine go_run' ttok 5 rfl (go_nil nd (then_norm (awp_seq (awp_seq (awp_go hmix (go_run' ttok 3 rfl ?_))))))
  refine go_gcase rfl rfl rfl (fun g3 => ?_) (fun g3 => ?_)
  ·rw [g3]
   replace h := of_bif_t h g3
   refine go_run' ttok 3 rfl (go_nil nd (then_norm ?_))
   refine awp_cond rfl (fun tt0 => ?_) (fun h => by cases h)
   clear tt0
   cases h
  ·rw [g3]
   replace h := of_bif_f h g3
   refine go_run' ttok 3 rfl (go_nil nd (then_norm ?_))
   refine awp_cond (b := (decide (9223372036854775807 < mv.2))) rfl (fun c4 => ?_) (fun c4 => ?_)
   ·replace h := of_bif_t h c4
    cases h
   ·replace h := of_bif_f h c4
    refine awp_skip (then_norm (awp_seq (awp_go hmix (go_run' ttok 2 rfl ?_))))
    obtain ⟨m, hv5, h⟩ := of_obind h
    refine go_makeT I 0 (W64 mv.2) m hv5 ttok rfl rfl rfl rfl rfl rfl rfl rfl rfl rfl rfl rfl rfl ?_
    refine go_run' ttok 1 rfl (go_nil nd (then_norm (awp_seq (awp_go hmix (go_run' ttok 2 rfl ?_)))))
    obtain ⟨hd6, h⟩ := of_grd h
    obtain ⟨l, hv7, h⟩ := of_let h
    refine go_copyS I m x l hv7 hd6 (fun _ => rfl) (fun _ => rfl) ttok rfl rfl rfl rfl rfl rfl rfl rfl rfl rfl rfl rfl ?_
    have hl8 : l.length = m.length := cpy_len hv7 hd6
    refine go_run' ttok 1 rfl (go_nil nd (then_norm ?_))
    obtain ⟨y, hx9, h⟩ := of_obind h
    refine awp_seqJ (X := (List Int)) [] [] (fun w => [(7, (.arr 30 0 w.length))]) (fun w => [(30, some ⟨3, 1, w.map I⟩)]) (fun w => w = y) rfl rfl ?_ ?_
    ·skip
     refine awp_block ?_
     refine awp_loopD (X := (Int × (List Int))) (Y := (List Int)) [] [] (fun q => [(8, (I q.1)), (7, (.arr 30 0 q.2.length))]) (fun q => [(30, some ⟨3, 1, q.2.map I⟩)]) (fun q => slices_Repeat___int_int__s1 q.1 q.2) (((min x.length m.length : Nat) : Int), l) [(30, some 30)] hx9 ⟨rfl, rfl, rfl, rfl, rfl, ⟨wkP_id _ rfl, ⟨rfl, rfl, (by first | rfl | (simp [setI]; done) | omega | (dsimp only; omega) | (simp [setI]; omega))⟩, trivial⟩, ⟨⟨_, rfl, rfl, rfl, wkX_map (enc := I) l (fun _ => rfl)⟩, trivial⟩⟩ (fun x1 vR vz hz11 hk12 => ?_)
     obtain ⟨n, newslice1⟩ := x1
     change slices_Repeat___int_int__s1 n newslice1 = _ at hz11
     unfold slices_Repeat___int_int__s1 at hz11
     refine awp_seq (awp_seq (awp_go hmix (go_run' ttok 4 rfl (go_nil nd (then_norm ?_)))))
     refine awp_cond (b := (decide (n < ((newslice1.length : Nat) : Int)))) rfl (fun c13 => ?_) (fun c13 => ?_)
     ·replace hz11 := of_bif_t hz11 c13
      refine awp_skip (then_norm (awp_block (awp_go hmix (go_run' ttok 3 rfl ?_))))
      obtain ⟨hd14, hz11⟩ := of_grd hz11
      refine go_sliceA n ((newslice1.length : Nat) : Int) hd14 ttok rfl rfl rfl rfl rfl rfl rfl rfl ⟨_, rfl⟩ rfl rfl ?_
      refine go_run' ttok 2 rfl ?_
      obtain ⟨hd15, hz11⟩ := of_grd hz11
      refine go_sliceA (0 : Int) n hd15 ttok rfl rfl rfl rfl rfl rfl rfl rfl rfl ⟨_, rfl⟩ rfl ?_
      obtain ⟨hd16, hz11⟩ := of_grd hz11
      obtain ⟨hd17, hz11⟩ := of_grd hz11
      obtain ⟨l1, hv18, hz11⟩ := of_let hz11
      refine go_copyA I newslice1 l1 hv18 hd16 hd17 (fun _ => rfl) ttok rfl rfl rfl rfl rfl rfl rfl rfl rfl rfl rfl rfl ?_
      have hl19 : l1.length = newslice1.length := cpy_len hv18 hd16
      refine go_run' ttok 2 rfl ?_
      refine go_nil (fun _ => by kernel_rfl) ?_
      refine block_norm ?_
      have e20 := of_some hz11
      subst e20
      refine then_norm ⟨rfl, ((W64 (n + ((min ((newslice1.drop (0 : Int).toNat).take (n.toNat - (0 : Int).toNat)).length (((newslice1.length : Nat) : Int).toNat - n.toNat) : Nat) : Int))), l1), [(30, some 30)], ⟨rfl, rfl, rfl, rfl, rfl, ⟨wkP_id _ rfl, ⟨rfl, rfl, (by first | rfl | (simp [setI]; done) | omega | (dsimp only; omega) | (simp [setI]; omega))⟩, trivial⟩, ⟨⟨_, rfl, rfl, rfl, wkX_map (enc := I) l1 (fun _ => rfl)⟩, trivial⟩⟩, hk12⟩
     ·replace hz11 := of_bif_f hz11 c13
      refine awp_exit (then_exit ?_)
      obtain ⟨t, hn21, hq⟩ := of_mapr' hz11
      subst hq
      have hq : t = _ := hk12
      subst hq
      refine then_exit (block_here ?_)
      have e22 := of_some hn21
      refine then_norm ⟨rfl, newslice1, [(30, some 30)], ⟨rfl, rfl, rfl, rfl, rfl, ⟨⟨rfl, rfl, (by first | rfl | (simp [setI]; done) | omega | (dsimp only; omega) | (simp [setI]; omega))⟩, trivial⟩, ⟨⟨_, rfl, rfl, rfl, wkX_map (enc := I) newslice1 (fun _ => rfl)⟩, trivial⟩⟩, e22⟩
    ·intro newslice hw10
     subst hw10
     refine awp_seq (awp_go hmix (go_run' ttok 2 rfl (go_nil nd (then_norm (awp_ret ?_)))))
     have e23 := of_some h
     subst e23
     refine ret_ret ?_
     exact finB [(998, some 30)] ttok rfl rfl rfl rfl ⟨rfl, rfl, (by first | rfl | (simp [setI]; done) | omega | (dsimp only; omega) | (simp [setI]; omega))⟩ ⟨⟨_, rfl, rfl, rfl, wkX_map (enc := I) newslice (fun _ => rfl)⟩, trivial⟩
noncomputable def slices_Repeat___int_int__cs1 (N : Nat) (n : Int) (newslice1 : (List Int)) : Option ((Int × (List Int)) ⊕ (List Int)) :=
 (bif (decide (n < ((newslice1.length : Nat) : Int))) then (bif (decide (0 ≤ n) && (decide (n < ((newslice1.length : Nat) : Int)) && (decide (n ≤ ((newslice1.length : Nat) : Int)) && decide (((newslice1.length : Nat) : Int) ≤ ((newslice1.length : Nat) : Int))))) then (bif (decide (0 ≤ (0 : Int)) && (decide ((0 : Int) < ((newslice1.length : Nat) : Int)) && (decide ((0 : Int) ≤ n) && decide (n ≤ ((newslice1.length : Nat) : Int))))) then (bif (Nat.ble (n.toNat + (((newslice1.length : Nat) : Int).toNat - n.toNat)) newslice1.length && (Nat.blt 0 (((newslice1.length : Nat) : Int).toNat - n.toNat) && !((newslice1.drop (0 : Int).toNat).take (n.toNat - (0 : Int).toNat)).isEmpty)) then (bif (Nat.ble ((0 : Int).toNat + (n.toNat - (0 : Int).toNat)) newslice1.length) then (letB (cpy newslice1 ((newslice1.drop (0 : Int).toNat).take (n.toNat - (0 : Int).toNat)) n.toNat (((newslice1.length : Nat) : Int).toNat - n.toNat)) (fun l1 => some (Sum.inl ((W64 (n + ((min ((newslice1.drop (0 : Int).toNat).take (n.toNat - (0 : Int).toNat)).length (((newslice1.length : Nat) : Int).toNat - n.toNat) : Nat) : Int))), l1)))) else none) else none) else none) else none) else some (Sum.inr newslice1))
theorem slices_Repeat___int_int__cs1_le (N : Nat) (n : Int) (newslice1 : (List Int)) : OLe (slices_Repeat___int_int__cs1 N n newslice1) (slices_Repeat___int_int__s1 n newslice1) := by
 unfold slices_Repeat___int_int__cs1 slices_Repeat___int_int__s1
 repeat' (first | exact ole_rfl | refine ole_bif ?_ ?_ | refine ole_bind ?_ (fun _ => ?_) | refine ole_let (fun _ => ?_) | refine ole_map ?_ | refine ole_elim (fun _ => ?_) (fun _ => ?_) | refine ole_loop (fun _ => ?_))
noncomputable def slices_Repeat___int_int__c (N : Nat) (x : (List Int)) (vcount : Int) : Option (List Int) :=
 (bif (decide (vcount < 0)) then none else (letB (bits_Mul_g (WU64 ((x.length : Nat) : Int)) (WU64 vcount)) (fun mv => (bif (decide (0 < mv.1)) then none else (bif (decide (9223372036854775807 < mv.2)) then none else (Option.bind (mkO 8 0 (W64 mv.2)) (fun m => (bif (Nat.ble (0 + m.length) m.length && (Nat.blt 0 m.length && !x.isEmpty)) then (letB (cpy m x 0 m.length) (fun l => (Option.bind ((iterX N (fun q => slices_Repeat___int_int__cs1 N q.1 q.2) (((min x.length m.length : Nat) : Int), l)) : Option (List Int)) (fun newslice => some newslice)))) else none))))))))
theorem slices_Repeat___int_int__le (N : Nat) (x : (List Int)) (vcount : Int) : OLe (slices_Repeat___int_int__c N x vcount) (slices_Repeat___int_int__g x vcount) := by
 unfold slices_Repeat___int_int__c slices_Repeat___int_int__g
 repeat' (first | exact ole_rfl | exact slices_Repeat___int_int__cs1_le _ _ _ | refine ole_bif ?_ ?_ | refine ole_bind ?_ (fun _ => ?_) | refine ole_let (fun _ => ?_) | refine ole_map ?_ | refine ole_elim (fun _ => ?_) (fun _ => ?_) | refine ole_loop (fun _ => ?_))

noncomputable def resaw_sums_s3 (kerf : Int) (sizes : (List Int)) (prices : (List Int)) (i : Int) (vv : Int) (best3 : (List (Ar 9 (List Int)))) (rv : (List Int)) (vv1 : Int) (row1 : (List Int)) : Option ((Int × (List Int)) ⊕ (List Int)) :=
 (bif (decide (vv1 < ((rv.length : Nat) : Int))) then (bif (vv == 0) then (Option.bind (getI row1 vv1) (fun e => some (Sum.inl ((W64 (vv1 + 1)), (setI row1 vv1 0))))) else (bif (i == ((sizes.length : Nat) : Int)) then some (Sum.inl ((W64 (vv1 + 1)), row1)) else (Option.bind (getI best3 (W64 (i + 1))) (fun e1 => (Option.bind (getI e1.1 vv) (fun e2 => (Option.bind (getI e2 vv1) (fun e3 => (Option.bind (getI row1 vv1) (fun e4 => (Option.bind (getI sizes i) (fun e5 => (Option.bind ((bif (decide (0 ≤ (W64 ((W64 (vv1 - e5)) - kerf)))) then (Option.bind (getI best3 i) (fun e6 => (Option.bind (getI e6.1 (W64 (vv - 1))) (fun e7 => (Option.bind (getI e7 (W64 ((W64 (vv1 - e5)) - kerf))) (fun e8 => some (decide (0 ≤ e8)))))))) else some false) : Option Bool) (fun vv2 => (bif vv2 then (Option.bind (getI (setI row1 vv1 e3) vv1) (fun e9 => (Option.bind (getI best3 i) (fun e10 => (Option.bind (getI e10.1 (W64 (vv - 1))) (fun e11 => (Option.bind (getI e11 (W64 ((W64 (vv1 - e5)) - kerf))) (fun e12 => (Option.bind (getI prices i) (fun e13 => (Option.bind (getI (setI row1 vv1 e3) vv1) (fun e14 => some (Sum.inl ((W64 (vv1 + 1)), (setI (setI row1 vv1 e3) vv1 (max e9 (W64 (e12 + e13)))))))))))))))))) else some (Sum.inl ((W64 (vv1 + 1)), (setI row1 vv1 e3)))))))))))))))))) else some (Sum.inr row1))
noncomputable def resaw_sums_s2 (most : Int) (kerf : Int) (sizes : (List Int)) (prices : (List Int)) (i : Int) (vv : Int) (best3 : (List (Ar 9 (List Int)))) : Option ((Int × (List (Ar 9 (List Int)))) ⊕ (List (Ar 9 (List Int)))) :=
 (bif (decide (vv < 9)) then (Option.bind ((Option.bind (slices_Repeat___int_int__g ([(-1)]) (W64 (most + 1))) (fun rv => (Option.bind ((loopO (fun q => resaw_sums_s3 kerf sizes prices i vv best3 rv q.1 q.2) (0, rv)) : Option (List Int)) (fun row => (Option.bind (getI best3 i) (fun e15 => (Option.bind (getI e15.1 vv) (fun e16 => some (setI best3 i (arS e15 vv row)))))))))) : Option (List (Ar 9 (List Int)))) (fun best4 => some (Sum.inl ((W64 (vv + 1)), best4)))) else some (Sum.inr best3))
noncomputable def resaw_sums_s1 (most : Int) (kerf : Int) (sizes : (List Int)) (prices : (List Int)) (i : Int) (best1 : (List (Ar 9 (List Int)))) : Option ((Int × (List (Ar 9 (List Int)))) ⊕ (List (Ar 9 (List Int)))) :=
 (bif (decide (0 ≤ i)) then (Option.bind ((loopO (fun q => resaw_sums_s2 most kerf sizes prices i q.1 q.2) (0, best1)) : Option (List (Ar 9 (List Int)))) (fun best2 => some (Sum.inl ((W64 (i - 1)), best2)))) else some (Sum.inr best1))
/-- sawmill/resaw.sums -/
noncomputable def resaw_sums_g (most : Int) (kerf : Int) (sizes : (List Int)) (prices : (List Int)) : Option (List (Ar 9 (List Int))) :=
 (Option.bind (mkO 216 (arZ 9 []) (W64 (((sizes.length : Nat) : Int) + 1))) (fun m => (Option.bind ((loopO (fun q => resaw_sums_s1 most kerf sizes prices q.1 q.2) (((sizes.length : Nat) : Int), m)) : Option (List (Ar 9 (List Int)))) (fun best => some best))))
theorem resaw_sums_w (most : Int) (kerf : Int) (sizes : (List Int)) (prices : (List Int)) (r : (List (Ar 9 (List Int)))) (h : resaw_sums_g most kerf sizes prices = some r) : Holds Try.prog 36 [(I most), (I kerf), ((encL I) sizes), ((encL I) prices)] [] ((encL (encAr (encL I))) r) [] := by
 unfold resaw_sums_g at h
 refine holds_fn Try.func36 rfl Try.ntmps36 rfl rfl rfl (fun lim => ?_)
 refine awp_seq (awp_go hmix (go_run' ttok 1 rfl (go_nil nd (then_norm (awp_seq (awp_go hmix (go_run' ttok 1 rfl ?_)))))))
 refine go_lenT I sizes ttok rfl rfl rfl rfl rfl rfl ?_
 refine go_run' ttok 1 rfl ?_
 obtain ⟨m, hv1, h⟩ := of_obind h
 refine go_makeAr I (W64 (((sizes.length : Nat) : Int) + 1)) m hv1 ttok rfl rfl rfl rfl rfl rfl rfl rfl rfl rfl rfl rfl rfl ?_
 refine go_run' ttok 1 rfl (go_nil nd (then_norm ?_))
 obtain ⟨y, hx2, h⟩ := of_obind h
 refine awp_seqJ (X := (List (Ar 9 (List Int)))) [] [] (fun w => [(9, (.arr 18 0 w.length))]) (fun w => [(18, some ⟨71, 9, w.map (encAr (encL I))⟩)]) (fun w => w = y) rfl rfl ?_ ?_
 ·skip
  refine awp_seq (awp_go hmix (go_run' ttok 1 rfl ?_))
  refine go_lenT I sizes ttok rfl rfl rfl rfl rfl rfl ?_
  refine go_run' ttok 1 rfl (go_nil nd (then_norm (awp_block ?_)))
  refine awp_loopD (X := (Int × (List (Ar 9 (List Int))))) (Y := (List (Ar 9 (List Int)))) [0, 1, 2, 3] [] (fun q => [(10, (I q.1)), (9, (.arr 18 0 q.2.length))]) (fun q => [(18, some ⟨71, 9, q.2.map (encAr (encL I))⟩)]) (fun q => resaw_sums_s1 most kerf sizes prices q.1 q.2) (((sizes.length : Nat) : Int), m) [(18, some 18)] hx2 ⟨rfl, rfl, rfl, rfl, rfl, ⟨wkP_id _ rfl, ⟨rfl, rfl, (by first | rfl | (simp [setI]; done) | omega | (dsimp only; omega) | (simp [setI]; omega))⟩, trivial⟩, ⟨⟨_, rfl, rfl, rfl, wkX_map (enc := (encAr (encL I))) m (fun _ => nr_ar (fun _ => rfl) _)⟩, trivial⟩⟩ (fun x vR vz hz4 hk5 => ?_)
  obtain ⟨i, best1⟩ := x
  change resaw_sums_s1 most kerf sizes prices i best1 = _ at hz4
  unfold resaw_sums_s1 at hz4
  refine awp_seq (awp_seq (awp_go hmix (go_run' ttok 2 rfl (go_nil nd (then_norm ?_)))))
  refine awp_cond (b := (decide (0 ≤ i))) rfl (fun c6 => ?_) (fun c6 => ?_)
  ·replace hz4 := of_bif_t hz4 c6
   refine awp_skip (then_norm ?_)
   obtain ⟨y1, hx7, hz4⟩ := of_obind hz4
   refine awp_seqJ (X := (List (Ar 9 (List Int)))) [0, 1, 2, 3, 10] [] (fun w1 => [(9, (.arr 18 0 w1.length))]) (fun w1 => [(18, some ⟨71, 9, w1.map (encAr (encL I))⟩)]) (fun w1 => w1 = y1) rfl rfl ?_ ?_
   ·skip
    refine awp_block (awp_seq (awp_go hmix (go_run' ttok 1 rfl (go_nil nd (then_norm (awp_block ?_))))))
    refine awp_loopD (X := (Int × (List (Ar 9 (List Int))))) (Y := (List (Ar 9 (List Int)))) [0, 1, 2, 3, 10] [] (fun q => [(25, (I q.1)), (9, (.arr 18 0 q.2.length))]) (fun q => [(18, some ⟨71, 9, q.2.map (encAr (encL I))⟩)]) (fun q => resaw_sums_s2 most kerf sizes prices i q.1 q.2) (0, best1) [(18, some 18)] hx7 ⟨rfl, rfl, rfl, rfl, rfl, ⟨wkP_id _ rfl, ⟨rfl, rfl, (by first | rfl | (simp [setI]; done) | omega | (dsimp only; omega) | (simp [setI]; omega))⟩, trivial⟩, ⟨⟨_, rfl, rfl, rfl, wkX_map (enc := (encAr (encL I))) best1 (fun _ => nr_ar (fun _ => rfl) _)⟩, trivial⟩⟩ (fun x1 vR1 vz1 hz9 hk10 => ?_)
    obtain ⟨vv, best3⟩ := x1
    change resaw_sums_s2 most kerf sizes prices i vv best3 = _ at hz9
    unfold resaw_sums_s2 at hz9
    refine awp_seq (awp_go hmix (go_run' ttok 1 rfl (go_nil nd (then_norm (awp_seq ?_)))))
    refine awp_cond (b := (decide (vv < 9))) rfl (fun c11 => ?_) (fun c11 => ?_)
    ·replace hz9 := of_bif_t hz9 c11
     refine awp_skip (then_norm ?_)
     obtain ⟨y2, hx12, hz9⟩ := of_obind hz9
     refine awp_seqJ (X := (List (Ar 9 (List Int)))) [0, 1, 2, 3, 10, 25] [] (fun w2 => [(9, (.arr 18 0 w2.length))]) (fun w2 => [(18, some ⟨71, 9, w2.map (encAr (encL I))⟩)]) (fun w2 => w2 = y2) rfl rfl ?_ ?_
     ·skip
      refine awp_block (awp_seq (awp_go hmix (go_run' ttok 2 rfl (go_nil nd (then_norm (awp_seq (awp_go hmix (go_run' ttok 3 rfl ?_))))))))
      obtain ⟨rv, hv14, hx12⟩ := of_obind hx12
      refine go_callM (.arr 31 0 rv.length) [(28, some ⟨3, 1, ([(-1)]).map I⟩)] [(31, some ⟨3, 1, rv.map I⟩)] [] [(31, some 998)] fn44 (slices_Repeat___int_int__w ([(-1)]) (W64 (most + 1)) rv hv14) rfl rfl rfl rfl rfl ⟨rfl, by decide, trivial⟩ ⟨(wkP_lend rfl (by first | rfl | (simp [setI]; done) | omega | (dsimp only; omega) | (simp [setI]; omega)) (fun _ => rfl)), (wkP_refl _ rfl), trivial⟩ rfl rfl trivial rfl rfl ⟨⟨_, rfl, rfl, rfl, wkX_map (enc := I) rv (fun _ => rfl)⟩, trivial⟩ ⟨rfl, rfl, (by first | rfl | (simp [setI]; done) | omega | (dsimp only; omega) | (simp [setI]; omega))⟩ rfl (fun _ => ⟨rfl, ⟨nsl_map (fun _ => rfl) _, trivial⟩⟩) rfl rfl rfl ?_
      refine go_run' ttok 1 rfl (go_nil nd (then_norm ?_))
      obtain ⟨y3, hx15, hx12⟩ := of_obind hx12
      refine awp_seqJ (X := (List Int)) [0, 1, 2, 3, 10, 11, 25] [] (fun w3 => [(9, (.arr 18 0 best3.length)), (12, (.arr 31 0 w3.length))]) (fun w3 => [(18, some ⟨71, 9, best3.map (encAr (encL I))⟩), (31, some ⟨3, 1, w3.map I⟩)]) (fun w3 => w3 = y3) rfl rfl ?_ ?_
      ·skip
       refine awp_seq (awp_go hmix (go_run' ttok 3 rfl (go_nil nd (then_norm (awp_block ?_)))))
       refine awp_loopD (X := (Int × (List Int))) (Y := (List Int)) [0, 1, 2, 3, 10, 11, 25, 33] [] (fun q => [(34, (I q.1)), (9, (.arr 18 0 best3.length)), (12, (.arr 31 0 q.2.length))]) (fun q => [(18, some ⟨71, 9, best3.map (encAr (encL I))⟩), (31, some ⟨3, 1, q.2.map I⟩)]) (fun q => resaw_sums_s3 kerf sizes prices i vv best3 rv q.1 q.2) (0, rv) [(18, some 18), (31, some 31)] hx15 ⟨rfl, rfl, rfl, rfl, rfl, ⟨wkP_id _ rfl, ⟨rfl, rfl, (by first | rfl | (simp [setI]; done) | omega | (dsimp only; omega) | (simp [setI]; omega))⟩, ⟨rfl, rfl, (by first | rfl | (simp [setI]; done) | omega | (dsimp only; omega) | (simp [setI]; omega))⟩, trivial⟩, ⟨⟨_, rfl, rfl, rfl, wkX_map (enc := (encAr (encL I))) best3 (fun _ => nr_ar (fun _ => rfl) _)⟩, ⟨_, rfl, rfl, rfl, wkX_map (enc := I) rv (fun _ => rfl)⟩, trivial⟩⟩ (fun x2 vR2 vz2 hz17 hk18 => ?_)
       obtain ⟨vv1, row1⟩ := x2
       change resaw_sums_s3 kerf sizes prices i vv best3 rv vv1 row1 = _ at hz17
       unfold resaw_sums_s3 at hz17
       refine awp_seq (awp_go hmix (go_run' ttok 1 rfl (go_nil nd (then_norm (awp_seq ?_)))))
       refine awp_cond (b := (decide (vv1 < ((rv.length : Nat) : Int)))) rfl (fun c19 => ?_) (fun c19 => ?_)
       ·replace hz17 := of_bif_t hz17 c19
        refine awp_skip (then_norm (awp_seq (awp_block (awp_seq (awp_go hmix (go_run' ttok 2 rfl (go_nil nd (then_norm (awp_seq (awp_seq (awp_go hmix (go_run' ttok 2 rfl (go_nil nd (then_norm ?_))))))))))))))
        refine awp_cond (b := (vv == 0)) rfl (fun c20 => ?_) (fun c20 => ?_)
        ·replace hz17 := of_bif_t hz17 c20
         refine awp_seq (awp_go hmix (go_run' ttok 2 rfl ?_))
         obtain ⟨e, hv21, hz17⟩ := of_obind hz17
         refine go_indexAT I row1 vv1 e hv21 (by first | rfl | (simp [setI]; done) | omega | (dsimp only; omega) | (simp [setI]; omega)) ttok rfl rfl rfl rfl rfl rfl rfl rfl rfl rfl ?_
         refine go_storeT I row1 vv1 e 0 hv21 ttok rfl rfl rfl rfl rfl rfl rfl rfl rfl rfl rfl rfl ?_
         refine go_nil nd (then_norm (awp_exit (then_exit (block_here (then_norm (awp_go hmix (go_run' ttok 2 rfl (go_nil nd ?_))))))))
         have e22 := of_some hz17
         subst e22
         refine then_norm ⟨rfl, ((W64 (vv1 + 1)), (setI row1 vv1 0)), [(18, some 18), (31, some 31)], ⟨rfl, rfl, rfl, rfl, rfl, ⟨wkP_id _ rfl, ⟨rfl, rfl, (by first | rfl | (simp [setI]; done) | omega | (dsimp only; omega) | (simp [setI]; omega))⟩, ⟨rfl, rfl, (by first | rfl | (simp [setI]; done) | omega | (dsimp only; omega) | (simp [setI]; omega))⟩, trivial⟩, ⟨⟨_, rfl, rfl, rfl, wkX_map (enc := (encAr (encL I))) best3 (fun _ => nr_ar (fun _ => rfl) _)⟩, ⟨_, rfl, rfl, rfl, wkX_map (enc := I) (setI row1 vv1 0) (fun _ => rfl)⟩, trivial⟩⟩, hk18⟩
        ·replace hz17 := of_bif_f hz17 c20
         refine awp_skip (then_norm (awp_seq (awp_seq (awp_go hmix (go_run' ttok 2 rfl ?_)))))
         refine go_lenT I sizes ttok rfl rfl rfl rfl rfl rfl ?_
         refine go_run' ttok 1 rfl (go_nil nd (then_norm ?_))
         refine awp_cond (b := (i == ((sizes.length : Nat) : Int))) rfl (fun c23 => ?_) (fun c23 => ?_)
         ·replace hz17 := of_bif_t hz17 c23
          refine awp_exit (then_exit (block_here (then_norm (awp_go hmix (go_run' ttok 2 rfl (go_nil nd ?_))))))
          have e24 := of_some hz17
          subst e24
          refine then_norm ⟨rfl, ((W64 (vv1 + 1)), row1), [(18, some 18), (31, some 31)], ⟨rfl, rfl, rfl, rfl, rfl, ⟨wkP_id _ rfl, ⟨rfl, rfl, (by first | rfl | (simp [setI]; done) | omega | (dsimp only; omega) | (simp [setI]; omega))⟩, ⟨rfl, rfl, (by first | rfl | (simp [setI]; done) | omega | (dsimp only; omega) | (simp [setI]; omega))⟩, trivial⟩, ⟨⟨_, rfl, rfl, rfl, wkX_map (enc := (encAr (encL I))) best3 (fun _ => nr_ar (fun _ => rfl) _)⟩, ⟨_, rfl, rfl, rfl, wkX_map (enc := I) row1 (fun _ => rfl)⟩, trivial⟩⟩, hk18⟩
         ·replace hz17 := of_bif_f hz17 c23
          refine awp_skip (then_norm (awp_seq (awp_go hmix (go_run' ttok 6 rfl ?_))))
          obtain ⟨e1, hv25, hz17⟩ := of_obind hz17
          refine go_indexAT (encAr (encL I)) best3 (W64 (i + 1)) e1 hv25 (by first | rfl | (simp [setI]; done) | omega | (dsimp only; omega) | (simp [setI]; omega)) ttok rfl rfl rfl rfl rfl rfl rfl rfl rfl rfl ?_
          obtain ⟨e2, hv26, hz17⟩ := of_obind hz17
          refine go_indexAr e1 vv e2 hv26 ttok rfl rfl rfl rfl rfl rfl rfl rfl rfl ?_
          refine go_loadAr (encL I) best3 (W64 (i + 1)) vv e1 e2 hv25 hv26 rfl ttok rfl rfl rfl rfl rfl rfl rfl ?_
          refine go_run' ttok 1 rfl ?_
          obtain ⟨e3, hv27, hz17⟩ := of_obind hz17
          refine go_indexT I e2 vv1 e3 hv27 ttok rfl rfl rfl rfl rfl rfl rfl rfl rfl ?_
          refine go_run' ttok 1 rfl ?_
          obtain ⟨e4, hv28, hz17⟩ := of_obind hz17
          refine go_indexAT I row1 vv1 e4 hv28 (by first | rfl | (simp [setI]; done) | omega | (dsimp only; omega) | (simp [setI]; omega)) ttok rfl rfl rfl rfl rfl rfl rfl rfl rfl rfl ?_
          refine go_storeT I row1 vv1 e4 e3 hv28 ttok rfl rfl rfl rfl rfl rfl rfl rfl rfl rfl rfl rfl ?_
          refine go_nil nd (then_norm (awp_seq (awp_go hmix (go_run' ttok 3 rfl ?_))))
          obtain ⟨e5, hv29, hz17⟩ := of_obind hz17
          refine go_indexT I sizes i e5 hv29 ttok rfl rfl rfl rfl rfl rfl rfl rfl rfl ?_
          refine go_run' ttok 5 rfl (go_nil nd (then_norm ?_))
          obtain ⟨y4, hx30, hz17⟩ := of_obind hz17
          refine awp_seqJ (X := Bool) [0, 1, 2, 3, 10, 11, 13, 14, 25, 33, 34] [] (fun w4 => [(9, (.arr 18 0 best3.length)), (12, (.arr 31 0 row1.length)), (81, (B w4))]) (fun w4 => [(18, some ⟨71, 9, best3.map (encAr (encL I))⟩), (31, some ⟨3, 1, (setI row1 vv1 e3).map I⟩)]) (fun w4 => w4 = y4) rfl rfl ?_ ?_
          ·skip
           refine awp_go hmix (go_run' ttok 3 rfl ?_)
           refine go_gcase rfl rfl rfl (fun g32 => ?_) (fun g32 => ?_)
           ·rw [g32]
            replace hx30 := of_bif_t hx30 g32
            refine go_run' ttok 4 rfl ?_
            obtain ⟨e6, hv33, hx30⟩ := of_obind hx30
            refine go_indexAT (encAr (encL I)) best3 i e6 hv33 (by first | rfl | (simp [setI]; done) | omega | (dsimp only; omega) | (simp [setI]; omega)) ttok rfl rfl rfl rfl rfl rfl rfl rfl rfl rfl ?_
            obtain ⟨e7, hv34, hx30⟩ := of_obind hx30
            refine go_indexAr e6 (W64 (vv - 1)) e7 hv34 ttok rfl rfl rfl rfl rfl rfl rfl rfl rfl ?_
            refine go_loadAr (encL I) best3 i (W64 (vv - 1)) e6 e7 hv33 hv34 rfl ttok rfl rfl rfl rfl rfl rfl rfl ?_
            refine go_run' ttok 1 rfl ?_
            obtain ⟨e8, hv35, hx30⟩ := of_obind hx30
            refine go_indexT I e7 (W64 ((W64 (vv1 - e5)) - kerf)) e8 hv35 ttok rfl rfl rfl rfl rfl rfl rfl rfl rfl ?_
            refine go_run' ttok 3 rfl (go_nil nd ?_)
            have e36 := of_some hx30
            refine then_norm ⟨rfl, (decide (0 ≤ e8)), [(18, some 18), (31, some 31)], ⟨rfl, rfl, rfl, rfl, rfl, ⟨⟨rfl, rfl, (by first | rfl | (simp [setI]; done) | omega | (dsimp only; omega) | (simp [setI]; omega))⟩, ⟨rfl, rfl, (by first | rfl | (simp [setI]; done) | omega | (dsimp only; omega) | (simp [setI]; omega))⟩, wkP_id _ rfl, trivial⟩, ⟨⟨_, rfl, rfl, rfl, wkX_map (enc := (encAr (encL I))) best3 (fun _ => nr_ar (fun _ => rfl) _)⟩, ⟨_, rfl, rfl, rfl, wkX_map (enc := I) (setI row1 vv1 e3) (fun _ => rfl)⟩, trivial⟩⟩, e36⟩
           ·rw [g32]
            replace hx30 := of_bif_f hx30 g32
            refine go_run' ttok 12 rfl (go_nil nd ?_)
            have e37 := of_some hx30
            refine then_norm ⟨rfl, false, [(18, some 18), (31, some 31)], ⟨rfl, rfl, rfl, rfl, rfl, ⟨⟨rfl, rfl, (by first | rfl | (simp [setI]; done) | omega | (dsimp only; omega) | (simp [setI]; omega))⟩, ⟨rfl, rfl, (by first | rfl | (simp [setI]; done) | omega | (dsimp only; omega) | (simp [setI]; omega))⟩, wkP_id _ rfl, trivial⟩, ⟨⟨_, rfl, rfl, rfl, wkX_map (enc := (encAr (encL I))) best3 (fun _ => nr_ar (fun _ => rfl) _)⟩, ⟨_, rfl, rfl, rfl, wkX_map (enc := I) (setI row1 vv1 e3) (fun _ => rfl)⟩, trivial⟩⟩, e37⟩
          ·intro vv2 hw31
           subst hw31
           refine awp_cond (b := vv2) rfl (fun c38 => ?_) (fun c38 => ?_)
           ·replace hz17 := of_bif_t hz17 c38
            refine awp_go hmix (go_run' ttok 4 rfl ?_)
            obtain ⟨e9, hv39, hz17⟩ := of_obind hz17
            refine go_indexAT I (setI row1 vv1 e3) vv1 e9 hv39 (by first | rfl | (simp [setI]; done) | omega | (dsimp only; omega) | (simp [setI]; omega)) ttok rfl rfl rfl rfl rfl rfl rfl rfl rfl rfl ?_
            refine go_loadT I (setI row1 vv1 e3) vv1 e9 _ hv39 ttok rfl rfl rfl rfl rfl rfl rfl ?_
            refine go_run' ttok 4 rfl ?_
            obtain ⟨e10, hv40, hz17⟩ := of_obind hz17
            refine go_indexAT (encAr (encL I)) best3 i e10 hv40 (by first | rfl | (simp [setI]; done) | omega | (dsimp only; omega) | (simp [setI]; omega)) ttok rfl rfl rfl rfl rfl rfl rfl rfl rfl rfl ?_
            obtain ⟨e11, hv41, hz17⟩ := of_obind hz17
            refine go_indexAr e10 (W64 (vv - 1)) e11 hv41 ttok rfl rfl rfl rfl rfl rfl rfl rfl rfl ?_
            refine go_loadAr (encL I) best3 i (W64 (vv - 1)) e10 e11 hv40 hv41 rfl ttok rfl rfl rfl rfl rfl rfl rfl ?_
            refine go_run' ttok 1 rfl ?_
            obtain ⟨e12, hv42, hz17⟩ := of_obind hz17
            refine go_indexT I e11 (W64 ((W64 (vv1 - e5)) - kerf)) e12 hv42 ttok rfl rfl rfl rfl rfl rfl rfl rfl rfl ?_
            refine go_run' ttok 3 rfl ?_
            obtain ⟨e13, hv43, hz17⟩ := of_obind hz17
            refine go_indexT I prices i e13 hv43 ttok rfl rfl rfl rfl rfl rfl rfl rfl rfl ?_
            refine go_run' ttok 3 rfl ?_
            obtain ⟨e14, hv44, hz17⟩ := of_obind hz17
            refine go_indexAT I (setI row1 vv1 e3) vv1 e14 hv44 (by first | rfl | (simp [setI]; done) | omega | (dsimp only; omega) | (simp [setI]; omega)) ttok rfl rfl rfl rfl rfl rfl rfl rfl rfl rfl ?_
            refine go_storeT I (setI row1 vv1 e3) vv1 e14 (max e9 (W64 (e12 + e13))) hv44 ttok rfl rfl rfl rfl rfl rfl rfl rfl rfl rfl rfl rfl ?_
            refine go_nil (fun _ => by kernel_rfl) ?_
            refine block_norm (then_norm (awp_go hmix (go_run' ttok 2 rfl (go_nil nd ?_))))
            have e45 := of_some hz17
            subst e45
            refine then_norm ⟨rfl, ((W64 (vv1 + 1)), (setI (setI row1 vv1 e3) vv1 (max e9 (W64 (e12 + e13))))), [(18, some 18), (31, some 31)], ⟨rfl, rfl, rfl, rfl, rfl, ⟨wkP_id _ rfl, ⟨rfl, rfl, (by first | rfl | (simp [setI]; done) | omega | (dsimp only; omega) | (simp [setI]; omega))⟩, ⟨rfl, rfl, (by first | rfl | (simp [setI]; done) | omega | (dsimp only; omega) | (simp [setI]; omega))⟩, trivial⟩, ⟨⟨_, rfl, rfl, rfl, wkX_map (enc := (encAr (encL I))) best3 (fun _ => nr_ar (fun _ => rfl) _)⟩, ⟨_, rfl, rfl, rfl, wkX_map (enc := I) (setI (setI row1 vv1 e3) vv1 (max e9 (W64 (e12 + e13)))) (fun _ => rfl)⟩, trivial⟩⟩, hk18⟩
           ·replace hz17 := of_bif_f hz17 c38
            refine awp_skip (block_norm (then_norm (awp_go hmix (go_run' ttok 2 rfl (go_nil nd ?_)))))
            have e46 := of_some hz17
            subst e46
            refine then_norm ⟨rfl, ((W64 (vv1 + 1)), (setI row1 vv1 e3)), [(18, some 18), (31, some 31)], ⟨rfl, rfl, rfl, rfl, rfl, ⟨wkP_id _ rfl, ⟨rfl, rfl, (by first | rfl | (simp [setI]; done) | omega | (dsimp only; omega) | (simp [setI]; omega))⟩, ⟨rfl, rfl, (by first | rfl | (simp [setI]; done) | omega | (dsimp only; omega) | (simp [setI]; omega))⟩, trivial⟩, ⟨⟨_, rfl, rfl, rfl, wkX_map (enc := (encAr (encL I))) best3 (fun _ => nr_ar (fun _ => rfl) _)⟩, ⟨_, rfl, rfl, rfl, wkX_map (enc := I) (setI row1 vv1 e3) (fun _ => rfl)⟩, trivial⟩⟩, hk18⟩
       ·replace hz17 := of_bif_f hz17 c19
        refine awp_exit (then_exit ?_)
        obtain ⟨t, hn47, hq⟩ := of_mapr' hz17
        subst hq
        have hq : t = _ := hk18
        subst hq
        refine then_exit (block_here ?_)
        have e48 := of_some hn47
        refine then_norm ⟨rfl, row1, [(18, some 18), (31, some 31)], ⟨rfl, rfl, rfl, rfl, rfl, ⟨⟨rfl, rfl, (by first | rfl | (simp [setI]; done) | omega | (dsimp only; omega) | (simp [setI]; omega))⟩, ⟨rfl, rfl, (by first | rfl | (simp [setI]; done) | omega | (dsimp only; omega) | (simp [setI]; omega))⟩, trivial⟩, ⟨⟨_, rfl, rfl, rfl, wkX_map (enc := (encAr (encL I))) best3 (fun _ => nr_ar (fun _ => rfl) _)⟩, ⟨_, rfl, rfl, rfl, wkX_map (enc := I) row1 (fun _ => rfl)⟩, trivial⟩⟩, e48⟩
      ·intro row hw16
       subst hw16
       refine awp_freezeM [0, 1, 2, 3, 10, 11, 25] [] [(31, some ⟨3, 1, row.map I⟩)] [(18, some 18)] [(9, (.arr 18 0 best3.length)), (12, (encL I row))] [(18, some ⟨71, 9, best3.map (encAr (encL I))⟩)] rfl rfl rfl rfl rfl ⟨rfl, by decide, trivial⟩ ⟨(wkP_id _ rfl), (wkP_lend rfl (by first | rfl | (simp [setI]; done) | omega | (dsimp only; omega) | (simp [setI]; omega)) (fun _ => rfl)), trivial⟩ ⟨⟨_, rfl, rfl, rfl, .inl ⟨rfl, nr_map (fun _ => nr_ar (fun _ => rfl) _) _⟩⟩, trivial⟩ ?_
       refine awp_go hmix (go_run' ttok 4 rfl ?_)
       obtain ⟨e15, hv49, hx12⟩ := of_obind hx12
       refine go_indexAT (encAr (encL I)) best3 i e15 hv49 (by first | rfl | (simp [setI]; done) | omega | (dsimp only; omega) | (simp [setI]; omega)) ttok rfl rfl rfl rfl rfl rfl rfl rfl rfl rfl ?_
       obtain ⟨e16, hv50, hx12⟩ := of_obind hx12
       refine go_indexAr e15 vv e16 hv50 ttok rfl rfl rfl rfl rfl rfl rfl rfl rfl ?_
       refine go_storeAr (encL I) best3 i vv e15 e16 row hv49 hv50 rfl ttok rfl rfl rfl rfl rfl rfl rfl rfl rfl ?_
       refine go_nil nd (block_norm ?_)
       have e51 := of_some hx12
       refine then_norm ⟨rfl, (setI best3 i (arS e15 vv row)), [(18, some 18)], ⟨rfl, rfl, rfl, rfl, rfl, ⟨⟨rfl, rfl, (by first | rfl | (simp [setI]; done) | omega | (dsimp only; omega) | (simp [setI]; omega))⟩, trivial⟩, ⟨⟨_, rfl, rfl, rfl, wkX_map (enc := (encAr (encL I))) (setI best3 i (arS e15 vv row)) (fun _ => nr_ar (fun _ => rfl) _)⟩, trivial⟩⟩, e51⟩
     ·intro best4 hw13
      subst hw13
      refine awp_go hmix (go_run' ttok 2 rfl (go_nil nd ?_))
      have e52 := of_some hz9
      subst e52
      refine then_norm ⟨rfl, ((W64 (vv + 1)), best4), [(18, some 18)], ⟨rfl, rfl, rfl, rfl, rfl, ⟨wkP_id _ rfl, ⟨rfl, rfl, (by first | rfl | (simp [setI]; done) | omega | (dsimp only; omega) | (simp [setI]; omega))⟩, trivial⟩, ⟨⟨_, rfl, rfl, rfl, wkX_map (enc := (encAr (encL I))) best4 (fun _ => nr_ar (fun _ => rfl) _)⟩, trivial⟩⟩, hk10⟩
    ·replace hz9 := of_bif_f hz9 c11
     refine awp_exit (then_exit ?_)
     obtain ⟨t1, hn53, hq⟩ := of_mapr' hz9
     subst hq
     have hq : t1 = _ := hk10
     subst hq
     refine then_exit (block_here (block_norm ?_))
     have e54 := of_some hn53
     refine then_norm ⟨rfl, best3, [(18, some 18)], ⟨rfl, rfl, rfl, rfl, rfl, ⟨⟨rfl, rfl, (by first | rfl | (simp [setI]; done) | omega | (dsimp only; omega) | (simp [setI]; omega))⟩, trivial⟩, ⟨⟨_, rfl, rfl, rfl, wkX_map (enc := (encAr (encL I))) best3 (fun _ => nr_ar (fun _ => rfl) _)⟩, trivial⟩⟩, e54⟩
   ·intro best2 hw8
    subst hw8
    refine awp_go hmix (go_run' ttok 3 rfl (go_nil nd ?_))
    have e55 := of_some hz4
    subst e55
    refine then_norm ⟨rfl, ((W64 (i - 1)), best2), [(18, some 18)], ⟨rfl, rfl, rfl, rfl, rfl, ⟨wkP_id _ rfl, ⟨rfl, rfl, (by first | rfl | (simp [setI]; done) | omega | (dsimp only; omega) | (simp [setI]; omega))⟩, trivial⟩, ⟨⟨_, rfl, rfl, rfl, wkX_map (enc := (encAr (encL I))) best2 (fun _ => nr_ar (fun _ => rfl) _)⟩, trivial⟩⟩, hk5⟩
  ·replace hz4 := of_bif_f hz4 c6
   refine awp_exit (then_exit ?_)
   obtain ⟨t2, hn56, hq⟩ := of_mapr' hz4
   subst hq
   have hq : t2 = _ := hk5
   subst hq
   refine then_exit (block_here ?_)
   have e57 := of_some hn56
   refine then_norm ⟨rfl, best1, [(18, some 18)], ⟨rfl, rfl, rfl, rfl, rfl, ⟨⟨rfl, rfl, (by first | rfl | (simp [setI]; done) | omega | (dsimp only; omega) | (simp [setI]; omega))⟩, trivial⟩, ⟨⟨_, rfl, rfl, rfl, wkX_map (enc := (encAr (encL I))) best1 (fun _ => nr_ar (fun _ => rfl) _)⟩, trivial⟩⟩, e57⟩
 ·intro best hw3
  subst hw3
  refine awp_seq (awp_go hmix (go_run' ttok 2 rfl (go_nil nd (then_norm ?_))))
  refine awp_freezeM [] [] [(18, some ⟨71, 9, best.map (encAr (encL I))⟩)] [] [(8, (encL (encAr (encL I)) best))] [] rfl rfl rfl rfl rfl ⟨rfl, by decide, trivial⟩ ⟨(wkP_lend rfl (by first | rfl | (simp [setI]; done) | omega | (dsimp only; omega) | (simp [setI]; omega)) (fun _ => nr_ar (fun _ => rfl) _)), trivial⟩ trivial ?_
  refine awp_ret ?_
  have e58 := of_some h
  subst e58
  refine ret_ret ?_
  refine fin0 ttok rfl rfl ?_
  exact (wkP_refl _ rfl)
noncomputable def resaw_sums_cs3 (N : Nat) (kerf : Int) (sizes : (List Int)) (prices : (List Int)) (i : Int) (vv : Int) (best3 : (List (Ar 9 (List Int)))) (rv : (List Int)) (vv1 : Int) (row1 : (List Int)) : Option ((Int × (List Int)) ⊕ (List Int)) :=
 (bif (decide (vv1 < ((rv.length : Nat) : Int))) then (bif (vv == 0) then (Option.bind (getI row1 vv1) (fun e => some (Sum.inl ((W64 (vv1 + 1)), (setI row1 vv1 0))))) else (bif (i == ((sizes.length : Nat) : Int)) then some (Sum.inl ((W64 (vv1 + 1)), row1)) else (Option.bind (getI best3 (W64 (i + 1))) (fun e1 => (Option.bind (getI e1.1 vv) (fun e2 => (Option.bind (getI e2 vv1) (fun e3 => (Option.bind (getI row1 vv1) (fun e4 => (Option.bind (getI sizes i) (fun e5 => (Option.bind ((bif (decide (0 ≤ (W64 ((W64 (vv1 - e5)) - kerf)))) then (Option.bind (getI best3 i) (fun e6 => (Option.bind (getI e6.1 (W64 (vv - 1))) (fun e7 => (Option.bind (getI e7 (W64 ((W64 (vv1 - e5)) - kerf))) (fun e8 => some (decide (0 ≤ e8)))))))) else some false) : Option Bool) (fun vv2 => (bif vv2 then (Option.bind (getI (setI row1 vv1 e3) vv1) (fun e9 => (Option.bind (getI best3 i) (fun e10 => (Option.bind (getI e10.1 (W64 (vv - 1))) (fun e11 => (Option.bind (getI e11 (W64 ((W64 (vv1 - e5)) - kerf))) (fun e12 => (Option.bind (getI prices i) (fun e13 => (Option.bind (getI (setI row1 vv1 e3) vv1) (fun e14 => some (Sum.inl ((W64 (vv1 + 1)), (setI (setI row1 vv1 e3) vv1 (max e9 (W64 (e12 + e13)))))))))))))))))) else some (Sum.inl ((W64 (vv1 + 1)), (setI row1 vv1 e3)))))))))))))))))) else some (Sum.inr row1))
theorem resaw_sums_cs3_le (N : Nat) (kerf : Int) (sizes : (List Int)) (prices : (List Int)) (i : Int) (vv : Int) (best3 : (List (Ar 9 (List Int)))) (rv : (List Int)) (vv1 : Int) (row1 : (List Int)) : OLe (resaw_sums_cs3 N kerf sizes prices i vv best3 rv vv1 row1) (resaw_sums_s3 kerf sizes prices i vv best3 rv vv1 row1) := by
 unfold resaw_sums_cs3 resaw_sums_s3
 repeat' (first | exact ole_rfl | exact slices_Repeat___int_int__le _ _ _ | refine ole_bif ?_ ?_ | refine ole_bind ?_ (fun _ => ?_) | refine ole_let (fun _ => ?_) | refine ole_map ?_ | refine ole_elim (fun _ => ?_) (fun _ => ?_) | refine ole_loop (fun _ => ?_))
noncomputable def resaw_sums_cs2 (N : Nat) (most : Int) (kerf : Int) (sizes : (List Int)) (prices : (List Int)) (i : Int) (vv : Int) (best3 : (List (Ar 9 (List Int)))) : Option ((Int × (List (Ar 9 (List Int)))) ⊕ (List (Ar 9 (List Int)))) :=
 (bif (decide (vv < 9)) then (Option.bind ((Option.bind ((slices_Repeat___int_int__c N) ([(-1)]) (W64 (most + 1))) (fun rv => (Option.bind ((iterX N (fun q => resaw_sums_cs3 N kerf sizes prices i vv best3 rv q.1 q.2) (0, rv)) : Option (List Int)) (fun row => (Option.bind (getI best3 i) (fun e15 => (Option.bind (getI e15.1 vv) (fun e16 => some (setI best3 i (arS e15 vv row)))))))))) : Option (List (Ar 9 (List Int)))) (fun best4 => some (Sum.inl ((W64 (vv + 1)), best4)))) else some (Sum.inr best3))
theorem resaw_sums_cs2_le (N : Nat) (most : Int) (kerf : Int) (sizes : (List Int)) (prices : (List Int)) (i : Int) (vv : Int) (best3 : (List (Ar 9 (List Int)))) : OLe (resaw_sums_cs2 N most kerf sizes prices i vv best3) (resaw_sums_s2 most kerf sizes prices i vv best3) := by
 unfold resaw_sums_cs2 resaw_sums_s2
 repeat' (first | exact ole_rfl | exact slices_Repeat___int_int__le _ _ _ | exact resaw_sums_cs3_le _ _ _ _ _ _ _ _ _ _ | refine ole_bif ?_ ?_ | refine ole_bind ?_ (fun _ => ?_) | refine ole_let (fun _ => ?_) | refine ole_map ?_ | refine ole_elim (fun _ => ?_) (fun _ => ?_) | refine ole_loop (fun _ => ?_))
noncomputable def resaw_sums_cs1 (N : Nat) (most : Int) (kerf : Int) (sizes : (List Int)) (prices : (List Int)) (i : Int) (best1 : (List (Ar 9 (List Int)))) : Option ((Int × (List (Ar 9 (List Int)))) ⊕ (List (Ar 9 (List Int)))) :=
 (bif (decide (0 ≤ i)) then (Option.bind ((iterX N (fun q => resaw_sums_cs2 N most kerf sizes prices i q.1 q.2) (0, best1)) : Option (List (Ar 9 (List Int)))) (fun best2 => some (Sum.inl ((W64 (i - 1)), best2)))) else some (Sum.inr best1))
theorem resaw_sums_cs1_le (N : Nat) (most : Int) (kerf : Int) (sizes : (List Int)) (prices : (List Int)) (i : Int) (best1 : (List (Ar 9 (List Int)))) : OLe (resaw_sums_cs1 N most kerf sizes prices i best1) (resaw_sums_s1 most kerf sizes prices i best1) := by
 unfold resaw_sums_cs1 resaw_sums_s1
 repeat' (first | exact ole_rfl | exact slices_Repeat___int_int__le _ _ _ | exact resaw_sums_cs3_le _ _ _ _ _ _ _ _ _ _ | exact resaw_sums_cs2_le _ _ _ _ _ _ _ _ | refine ole_bif ?_ ?_ | refine ole_bind ?_ (fun _ => ?_) | refine ole_let (fun _ => ?_) | refine ole_map ?_ | refine ole_elim (fun _ => ?_) (fun _ => ?_) | refine ole_loop (fun _ => ?_))
noncomputable def resaw_sums_c (N : Nat) (most : Int) (kerf : Int) (sizes : (List Int)) (prices : (List Int)) : Option (List (Ar 9 (List Int))) :=
 (Option.bind (mkO 216 (arZ 9 []) (W64 (((sizes.length : Nat) : Int) + 1))) (fun m => (Option.bind ((iterX N (fun q => resaw_sums_cs1 N most kerf sizes prices q.1 q.2) (((sizes.length : Nat) : Int), m)) : Option (List (Ar 9 (List Int)))) (fun best => some best))))
theorem resaw_sums_le (N : Nat) (most : Int) (kerf : Int) (sizes : (List Int)) (prices : (List Int)) : OLe (resaw_sums_c N most kerf sizes prices) (resaw_sums_g most kerf sizes prices) := by
 unfold resaw_sums_c resaw_sums_g
 repeat' (first | exact ole_rfl | exact slices_Repeat___int_int__le _ _ _ | exact resaw_sums_cs3_le _ _ _ _ _ _ _ _ _ _ | exact resaw_sums_cs2_le _ _ _ _ _ _ _ _ | exact resaw_sums_cs1_le _ _ _ _ _ _ _ | refine ole_bif ?_ ?_ | refine ole_bind ?_ (fun _ => ?_) | refine ole_let (fun _ => ?_) | refine ole_map ?_ | refine ole_elim (fun _ => ?_) (fun _ => ?_) | refine ole_loop (fun _ => ?_))

noncomputable def resaw_Most_s1 (sizes : (List Int)) (prices : (List Int)) (vv : Int) : Option (Int ⊕ (((List Int) × Int × Int) ⊕ Unit)) :=
 (bif (decide (vv < ((sizes.length : Nat) : Int))) then (Option.bind (getI sizes vv) (fun e => (bif (decide (e < 1)) then some (Sum.inr (Sum.inl ([], 0, 9))) else (bif (decide (600 < e)) then some (Sum.inr (Sum.inl ([], 0, 9))) else (Option.bind (getI prices vv) (fun e1 => (bif (decide (e1 < 0)) then some (Sum.inr (Sum.inl ([], 0, 9))) else (Option.bind (getI prices vv) (fun e2 => (bif (decide (1000000 < e2)) then some (Sum.inr (Sum.inl ([], 0, 9))) else some (Sum.inl (W64 (vv + 1))))))))))))) else some (Sum.inr (Sum.inr ())))
noncomputable def resaw_Most_s2 (thick : Int) (kerf : Int) (sv : (List (Ar 9 (List Int)))) (vcount1 : Int) (vv1 : Int) : Option ((Int × Int) ⊕ Int) :=
 (bif (decide (vv1 < 9)) then (Option.bind (getI sv 0) (fun e3 => (Option.bind (getI e3.1 vv1) (fun e4 => (Option.bind (getI e4 (W64 (thick + kerf))) (fun e5 => (Option.bind (getI sv 0) (fun e6 => (Option.bind (getI e6.1 vcount1) (fun e7 => (Option.bind (getI e7 (W64 (thick + kerf))) (fun e8 => (bif (decide (e8 < e5)) then some (Sum.inl (vv1, (W64 (vv1 + 1)))) else some (Sum.inl (vcount1, (W64 (vv1 + 1))))))))))))))))) else some (Sum.inr vcount1))
noncomputable def resaw_Most_s3 (kerf : Int) (sizes : (List Int)) (prices : (List Int)) (sv : (List (Ar 9 (List Int)))) (room : Int) (vcount2 : Int) (vlist1 : (List Int)) (i : Int) : Option ((Int × Int × (List Int) × Int) ⊕ (List Int)) :=
 (bif (decide (0 < vcount2)) then (Option.bind (getI sizes i) (fun e12 => (bif (decide (0 ≤ (W64 ((W64 (room - e12)) - kerf)))) then (Option.bind (getI sv i) (fun e13 => (Option.bind (getI e13.1 (W64 (vcount2 - 1))) (fun e14 => (Option.bind (getI e14 (W64 ((W64 (room - e12)) - kerf))) (fun e15 => (bif (decide (0 ≤ e15)) then (Option.bind (getI sv i) (fun e16 => (Option.bind (getI e16.1 (W64 (vcount2 - 1))) (fun e17 => (Option.bind (getI e17 (W64 ((W64 (room - e12)) - kerf))) (fun e18 => (Option.bind (getI prices i) (fun e19 => (Option.bind (getI sv i) (fun e20 => (Option.bind (getI e20.1 vcount2) (fun e21 => (Option.bind (getI e21 room) (fun e22 => (bif ((W64 (e18 + e19)) == e22) then (Option.bind (appO 8 vlist1 ([i])) (fun l => some (Sum.inl ((W64 ((W64 (room - e12)) - kerf)), (W64 (vcount2 - 1)), l, i)))) else some (Sum.inl (room, vcount2, vlist1, (W64 (i + 1))))))))))))))))))) else some (Sum.inl (room, vcount2, vlist1, (W64 (i + 1))))))))))) else some (Sum.inl (room, vcount2, vlist1, (W64 (i + 1))))))) else some (Sum.inr vlist1))
/-- sawmill/resaw.Most -/
noncomputable def resaw_Most_g (thick : Int) (kerf : Int) (sizes : (List Int)) (prices : (List Int)) : Option ((List Int) × Int × Int) :=
 (bif (!(resaw_isSaw_g thick kerf)) then some ([], 0, 9) else (bif (((sizes.length : Nat) : Int) == 0) then some ([], 0, 3) else (bif (decide (32 < ((sizes.length : Nat) : Int))) then some ([], 0, 4) else (bif (((prices.length : Nat) : Int) != ((sizes.length : Nat) : Int)) then some ([], 0, 19) else (Option.bind ((loopO (fun q => resaw_Most_s1 sizes prices q) 0) : Option (((List Int) × Int × Int) ⊕ Unit)) (Sum.elim (fun q => some q) (fun _ => (Option.bind (resaw_sums_g (W64 (thick + kerf)) kerf sizes prices) (fun sv => (Option.bind ((loopO (fun q => resaw_Most_s2 thick kerf sv q.1 q.2) (0, 0)) : Option Int) (fun vcount => (Option.bind (getI sv 0) (fun e9 => (Option.bind (getI e9.1 vcount) (fun e10 => (Option.bind (getI e10 (W64 (thick + kerf))) (fun e11 => (Option.bind ((loopO (fun q => resaw_Most_s3 kerf sizes prices sv q.1 q.2.1 q.2.2.1 q.2.2.2) ((W64 (thick + kerf)), vcount, [], 0)) : Option (List Int)) (fun vlist => some (vlist, e11, 0))))))))))))))))))))
theorem resaw_Most_w (thick : Int) (kerf : Int) (sizes : (List Int)) (prices : (List Int)) (r : ((List Int) × Int × Int)) (h : resaw_Most_g thick kerf sizes prices = some r) : Holds Try.prog 19 [(I thick), (I kerf), ((encL I) sizes), ((encL I) prices)] [] (.tup [((encL I) r.1), (I r.2.1), (I r.2.2)]) [] := by
 unfold resaw_Most_g at h
 refine holds_fn Try.func19 rfl Try.ntmps19 rfl rfl rfl (fun lim => ?_)
 refine awp_seq (awp_go hmix (go_run' ttok 3 rfl (go_nil nd (then_norm (awp_seq (awp_seq (awp_go hmix (go_run' ttok 2 rfl ?_))))))))
 refine go_call fn34 (resaw_isSaw_w thick kerf _ rfl) rfl rfl rfl rfl rfl rfl rfl ?_
 refine go_run' ttok 1 rfl (go_nil nd (then_norm ?_))
 refine awp_cond (b := (!(resaw_isSaw_g thick kerf))) rfl (fun c1 => ?_) (fun c1 => ?_)
 ·replace h := of_bif_t h c1
  refine awp_seq (awp_go hmix (go_run' ttok 3 rfl (go_nil nd (then_norm (awp_ret (then_ret ?_))))))
  have e2 := of_some h
  subst e2
  refine ret_ret ?_
  refine fin0 ttok rfl rfl ?_
  exact ⟨wkP_nilm, (wkP_refl _ rfl), (wkP_refl _ rfl), trivial⟩
 ·replace h := of_bif_f h c1
  refine awp_skip (then_norm (awp_seq (awp_seq (awp_go hmix (go_run' ttok 1 rfl ?_)))))
  refine go_lenT I sizes ttok rfl rfl rfl rfl rfl rfl ?_
  refine go_run' ttok 1 rfl (go_nil nd (then_norm ?_))
  refine awp_cond (b := (((sizes.length : Nat) : Int) == 0)) rfl (fun c3 => ?_) (fun c3 => ?_)
  ·replace h := of_bif_t h c3
   refine awp_seq (awp_go hmix (go_run' ttok 3 rfl (go_nil nd (then_norm (awp_ret (then_ret ?_))))))
   have e4 := of_some h
   subst e4
   refine ret_ret ?_
   refine fin0 ttok rfl rfl ?_
   exact ⟨wkP_nilm, (wkP_refl _ rfl), (wkP_refl _ rfl), trivial⟩
  ·replace h := of_bif_f h c3
   refine awp_skip (then_norm (awp_seq (awp_seq (awp_go hmix (go_run' ttok 1 rfl ?_)))))
   refine go_lenT I sizes ttok rfl rfl rfl rfl rfl rfl ?_
   refine go_run' ttok 1 rfl (go_nil nd (then_norm ?_))
   refine awp_cond (b := (decide (32 < ((sizes.length : Nat) : Int)))) rfl (fun c5 => ?_) (fun c5 => ?_)
   ·replace h := of_bif_t h c5
    refine awp_seq (awp_go hmix (go_run' ttok 3 rfl (go_nil nd (then_norm (awp_ret (then_ret ?_))))))
    have e6 := of_some h
    subst e6
    refine ret_ret ?_
    refine fin0 ttok rfl rfl ?_
    exact ⟨wkP_nilm, (wkP_refl _ rfl), (wkP_refl _ rfl), trivial⟩
   ·replace h := of_bif_f h c5
    refine awp_skip (then_norm (awp_seq (awp_seq (awp_go hmix (go_run' ttok 1 rfl ?_)))))
    refine go_lenT I prices ttok rfl rfl rfl rfl rfl rfl ?_
    refine go_run' ttok 1 rfl ?_
    refine go_lenT I sizes ttok rfl rfl rfl rfl rfl rfl ?_
    refine go_run' ttok 1 rfl (go_nil nd (then_norm ?_))
    refine awp_cond (b := (((prices.length : Nat) : Int) != ((sizes.length : Nat) : Int))) rfl (fun c7 => ?_) (fun c7 => ?_)
    ·replace h := of_bif_t h c7
     refine awp_seq (awp_go hmix (go_run' ttok 3 rfl (go_nil nd (then_norm (awp_ret (then_ret ?_))))))
     have e8 := of_some h
     subst e8
     refine ret_ret ?_
     refine fin0 ttok rfl rfl ?_
     exact ⟨wkP_nilm, (wkP_refl _ rfl), (wkP_refl _ rfl), trivial⟩
    ·replace h := of_bif_f h c7
     refine awp_skip (then_norm ?_)
     obtain ⟨y, hx9, h⟩ := of_obind h
     refine awp_seqJ (X := Unit) [0, 1, 2, 3] [] (fun _ => []) (fun _ => []) (fun w => Sum.inr w = y) rfl rfl ?_ ?_
     ·skip
      refine awp_seq (awp_go hmix (go_run' ttok 1 rfl ?_))
      refine go_lenT I sizes ttok rfl rfl rfl rfl rfl rfl ?_
      refine go_run' ttok 1 rfl (go_nil nd (then_norm (awp_block ?_)))
      refine awp_loopD (X := Int) (Y := (((List Int) × Int × Int) ⊕ Unit)) [0, 1, 2, 3, 36, 37] [] (fun q => [(38, (I q))]) (fun q => []) (fun q => resaw_Most_s1 sizes prices q) 0 [] hx9 ⟨rfl, rfl, rfl, rfl, rfl, ⟨wkP_id _ rfl, trivial⟩, trivial⟩ (fun vv vR vz hz11 hk12 => ?_)
      change resaw_Most_s1 sizes prices vv = _ at hz11
      unfold resaw_Most_s1 at hz11
      refine awp_seq (awp_go hmix (go_run' ttok 1 rfl (go_nil nd (then_norm (awp_seq ?_)))))
      refine awp_cond (b := (decide (vv < ((sizes.length : Nat) : Int)))) rfl (fun c13 => ?_) (fun c13 => ?_)
      ·replace hz11 := of_bif_t hz11 c13
       refine awp_skip (then_norm (awp_seq (awp_block (awp_seq (awp_go hmix (go_run' ttok 1 rfl ?_))))))
       obtain ⟨e, hv14, hz11⟩ := of_obind hz11
       refine go_indexT I sizes vv e hv14 ttok rfl rfl rfl rfl rfl rfl rfl rfl rfl ?_
       refine go_run' ttok 3 rfl (go_nil nd (then_norm (awp_seq (awp_go hmix (go_run' ttok 3 rfl ?_)))))
       refine go_gcase rfl rfl rfl (fun g15 => ?_) (fun g15 => ?_)
       ·rw [g15]
        replace hz11 := of_bif_t hz11 g15
        refine go_run' ttok 17 rfl (go_nil nd (then_norm ?_))
        refine awp_cond rfl (fun tt0 => ?_) (fun h => by cases h)
        clear tt0
        refine awp_seq (awp_go hmix (go_run' ttok 3 rfl (go_nil nd (then_norm (awp_ret (block_ret (then_ret ?_)))))))
        obtain ⟨t, hn16, hq⟩ := of_mapr' hz11
        subst hq
        have hq : t = _ := hk12
        subst hq
        refine then_ret (block_ret ?_)
        obtain ⟨t1, hn17, hq⟩ := of_mapl' hn16
        subst hq
        have hq := of_inl h
        replace hq := of_some hq
        subst hq
        refine then_ret ?_
        have e18 := of_some hn17
        subst e18
        refine ret_ret ?_
        refine fin0 ttok rfl rfl ?_
        exact ⟨wkP_nilm, (wkP_refl _ rfl), (wkP_refl _ rfl), trivial⟩
       ·rw [g15]
        replace hz11 := of_bif_f hz11 g15
        refine go_run' ttok 4 rfl ?_
        refine go_gcase rfl rfl rfl (fun g19 => ?_) (fun g19 => ?_)
        ·rw [g19]
         replace hz11 := of_bif_t hz11 g19
         refine go_run' ttok 13 rfl (go_nil nd (then_norm ?_))
         refine awp_cond rfl (fun tt0 => ?_) (fun h => by cases h)
         clear tt0
         refine awp_seq (awp_go hmix (go_run' ttok 3 rfl (go_nil nd (then_norm (awp_ret (block_ret (then_ret ?_)))))))
         obtain ⟨t2, hn20, hq⟩ := of_mapr' hz11
         subst hq
         have hq : t2 = _ := hk12
         subst hq
         refine then_ret (block_ret ?_)
         obtain ⟨t3, hn21, hq⟩ := of_mapl' hn20
         subst hq
         have hq := of_inl h
         replace hq := of_some hq
         subst hq
         refine then_ret ?_
         have e22 := of_some hn21
         subst e22
         refine ret_ret ?_
         refine fin0 ttok rfl rfl ?_
         exact ⟨wkP_nilm, (wkP_refl _ rfl), (wkP_refl _ rfl), trivial⟩
        ·rw [g19]
         replace hz11 := of_bif_f hz11 g19
         refine go_run' ttok 2 rfl ?_
         obtain ⟨e1, hv23, hz11⟩ := of_obind hz11
         refine go_indexT I prices vv e1 hv23 ttok rfl rfl rfl rfl rfl rfl rfl rfl rfl ?_
         refine go_run' ttok 4 rfl ?_
         refine go_gcase rfl rfl rfl (fun g24 => ?_) (fun g24 => ?_)
         ·rw [g24]
          replace hz11 := of_bif_t hz11 g24
          refine go_run' ttok 6 rfl (go_nil nd (then_norm ?_))
          refine awp_cond rfl (fun tt0 => ?_) (fun h => by cases h)
          clear tt0
          refine awp_seq (awp_go hmix (go_run' ttok 3 rfl (go_nil nd (then_norm (awp_ret (block_ret (then_ret ?_)))))))
          obtain ⟨t4, hn25, hq⟩ := of_mapr' hz11
          subst hq
          have hq : t4 = _ := hk12
          subst hq
          refine then_ret (block_ret ?_)
          obtain ⟨t5, hn26, hq⟩ := of_mapl' hn25
          subst hq
          have hq := of_inl h
          replace hq := of_some hq
          subst hq
          refine then_ret ?_
          have e27 := of_some hn26
          subst e27
          refine ret_ret ?_
          refine fin0 ttok rfl rfl ?_
          exact ⟨wkP_nilm, (wkP_refl _ rfl), (wkP_refl _ rfl), trivial⟩
         ·rw [g24]
          replace hz11 := of_bif_f hz11 g24
          refine go_run' ttok 2 rfl ?_
          obtain ⟨e2, hv28, hz11⟩ := of_obind hz11
          refine go_indexT I prices vv e2 hv28 ttok rfl rfl rfl rfl rfl rfl rfl rfl rfl ?_
          refine go_run' ttok 3 rfl (go_nil nd (then_norm ?_))
          refine awp_cond (b := (decide (1000000 < e2))) rfl (fun c29 => ?_) (fun c29 => ?_)
          ·replace hz11 := of_bif_t hz11 c29
           refine awp_seq (awp_go hmix (go_run' ttok 3 rfl (go_nil nd (then_norm (awp_ret (block_ret (then_ret ?_)))))))
           obtain ⟨t6, hn30, hq⟩ := of_mapr' hz11
           subst hq
           have hq : t6 = _ := hk12
           subst hq
           refine then_ret (block_ret ?_)
           obtain ⟨t7, hn31, hq⟩ := of_mapl' hn30
           subst hq
           have hq := of_inl h
           replace hq := of_some hq
           subst hq
           refine then_ret ?_
           have e32 := of_some hn31
           subst e32
           refine ret_ret ?_
           refine fin0 ttok rfl rfl ?_
           exact ⟨wkP_nilm, (wkP_refl _ rfl), (wkP_refl _ rfl), trivial⟩
          ·replace hz11 := of_bif_f hz11 c29
           refine awp_skip (block_norm (then_norm (awp_go hmix (go_run' ttok 2 rfl (go_nil nd ?_)))))
           have e33 := of_some hz11
           subst e33
           refine then_norm ⟨rfl, (W64 (vv + 1)), [], ⟨rfl, rfl, rfl, rfl, rfl, ⟨wkP_id _ rfl, trivial⟩, trivial⟩, hk12⟩
      ·replace hz11 := of_bif_f hz11 c13
       refine awp_exit (then_exit ?_)
       obtain ⟨t8, hn34, hq⟩ := of_mapr' hz11
       subst hq
       have hq : t8 = _ := hk12
       subst hq
       refine then_exit (block_here ?_)
       have e35 := of_some hn34
       refine then_norm ⟨rfl, (), [], ⟨rfl, rfl, rfl, rfl, rfl, trivial, trivial⟩, e35⟩
     ·intro w hw10
      subst hw10
      replace h := of_inr h
      refine awp_seq (awp_go hmix (go_run' ttok 6 rfl ?_))
      obtain ⟨sv, hv36, h⟩ := of_obind h
      refine go_call fn36 (resaw_sums_w (W64 (thick + kerf)) kerf sizes prices sv hv36) rfl rfl rfl rfl rfl rfl rfl ?_
      refine go_run' ttok 1 rfl (go_nil nd (then_norm (awp_seq (awp_go hmix (go_run' ttok 5 rfl (go_nil nd (then_norm ?_)))))))
      obtain ⟨y1, hx37, h⟩ := of_obind h
      refine awp_seqJ (X := Int) [1, 2, 3, 13, 14] [] (fun w1 => [(15, (I w1))]) (fun w1 => []) (fun w1 => w1 = y1) rfl rfl ?_ ?_
      ·skip
       refine awp_seq (awp_go hmix (go_run' ttok 1 rfl (go_nil nd (then_norm (awp_block ?_)))))
       refine awp_loopD (X := (Int × Int)) (Y := Int) [1, 2, 3, 13, 14] [] (fun q => [(15, (I q.1)), (74, (I q.2))]) (fun q => []) (fun q => resaw_Most_s2 thick kerf sv q.1 q.2) (0, 0) [] hx37 ⟨rfl, rfl, rfl, rfl, rfl, ⟨wkP_id _ rfl, wkP_id _ rfl, trivial⟩, trivial⟩ (fun x vR1 vz1 hz39 hk40 => ?_)
       obtain ⟨vcount1, vv1⟩ := x
       change resaw_Most_s2 thick kerf sv vcount1 vv1 = _ at hz39
       unfold resaw_Most_s2 at hz39
       refine awp_seq (awp_go hmix (go_run' ttok 1 rfl (go_nil nd (then_norm (awp_seq ?_)))))
       refine awp_cond (b := (decide (vv1 < 9))) rfl (fun c41 => ?_) (fun c41 => ?_)
       ·replace hz39 := of_bif_t hz39 c41
        refine awp_skip (then_norm (awp_seq (awp_block (awp_seq (awp_go hmix (go_run' ttok 2 rfl (go_nil nd (then_norm (awp_seq (awp_go hmix (go_run' ttok 2 rfl ?_)))))))))))
        obtain ⟨e3, hv42, hz39⟩ := of_obind hz39
        refine go_indexT (encAr (encL I)) sv 0 e3 hv42 ttok rfl rfl rfl rfl rfl rfl rfl (ar_len _ rfl) rfl ?_
        obtain ⟨e4, hv43, hz39⟩ := of_obind hz39
        refine go_indexArV (encL I) e3 vv1 e4 hv43 ttok rfl rfl rfl rfl rfl rfl rfl rfl rfl ?_
        refine go_loadV1 ttok rfl rfl rfl rfl rfl rfl rfl ?_
        refine go_run' ttok 1 rfl ?_
        obtain ⟨e5, hv44, hz39⟩ := of_obind hz39
        refine go_indexT I e4 (W64 (thick + kerf)) e5 hv44 ttok rfl rfl rfl rfl rfl rfl rfl rfl rfl ?_
        refine go_run' ttok 3 rfl ?_
        obtain ⟨e6, hv45, hz39⟩ := of_obind hz39
        refine go_indexT (encAr (encL I)) sv 0 e6 hv45 ttok rfl rfl rfl rfl rfl rfl rfl (ar_len _ rfl) rfl ?_
        obtain ⟨e7, hv46, hz39⟩ := of_obind hz39
        refine go_indexArV (encL I) e6 vcount1 e7 hv46 ttok rfl rfl rfl rfl rfl rfl rfl rfl rfl ?_
        refine go_loadV1 ttok rfl rfl rfl rfl rfl rfl rfl ?_
        refine go_run' ttok 1 rfl ?_
        obtain ⟨e8, hv47, hz39⟩ := of_obind hz39
        refine go_indexT I e7 (W64 (thick + kerf)) e8 hv47 ttok rfl rfl rfl rfl rfl rfl rfl rfl rfl ?_
        refine go_run' ttok 2 rfl ?_
        refine go_nil (fun _ => by kernel_rfl) ?_
        refine then_norm ?_
        refine awp_cond (b := (decide (e8 < e5))) rfl (fun c48 => ?_) (fun c48 => ?_)
        ·replace hz39 := of_bif_t hz39 c48
         refine awp_go hmix (go_run' ttok 2 rfl (go_nil nd (block_norm (then_norm (awp_go hmix (go_run' ttok 2 rfl (go_nil nd ?_)))))))
         have e49 := of_some hz39
         subst e49
         refine then_norm ⟨rfl, (vv1, (W64 (vv1 + 1))), [], ⟨rfl, rfl, rfl, rfl, rfl, ⟨wkP_id _ rfl, wkP_id _ rfl, trivial⟩, trivial⟩, hk40⟩
        ·replace hz39 := of_bif_f hz39 c48
         refine awp_skip (block_norm (then_norm (awp_go hmix (go_run' ttok 2 rfl (go_nil nd ?_)))))
         have e50 := of_some hz39
         subst e50
         refine then_norm ⟨rfl, (vcount1, (W64 (vv1 + 1))), [], ⟨rfl, rfl, rfl, rfl, rfl, ⟨wkP_id _ rfl, wkP_id _ rfl, trivial⟩, trivial⟩, hk40⟩
       ·replace hz39 := of_bif_f hz39 c41
        refine awp_exit (then_exit ?_)
        obtain ⟨t9, hn51, hq⟩ := of_mapr' hz39
        subst hq
        have hq : t9 = _ := hk40
        subst hq
        refine then_exit (block_here ?_)
        have e52 := of_some hn51
        refine then_norm ⟨rfl, vcount1, [], ⟨rfl, rfl, rfl, rfl, rfl, ⟨wkP_id _ rfl, trivial⟩, trivial⟩, e52⟩
      ·intro vcount hw38
       subst hw38
       refine awp_seq (awp_go hmix (go_run' ttok 2 rfl ?_))
       obtain ⟨e9, hv53, h⟩ := of_obind h
       refine go_indexT (encAr (encL I)) sv 0 e9 hv53 ttok rfl rfl rfl rfl rfl rfl rfl (ar_len _ rfl) rfl ?_
       obtain ⟨e10, hv54, h⟩ := of_obind h
       refine go_indexArV (encL I) e9 vcount e10 hv54 ttok rfl rfl rfl rfl rfl rfl rfl rfl rfl ?_
       refine go_loadV1 ttok rfl rfl rfl rfl rfl rfl rfl ?_
       refine go_run' ttok 1 rfl ?_
       obtain ⟨e11, hv55, h⟩ := of_obind h
       refine go_indexT I e10 (W64 (thick + kerf)) e11 hv55 ttok rfl rfl rfl rfl rfl rfl rfl rfl rfl ?_
       refine go_run' ttok 2 rfl (go_nil nd (then_norm (awp_seq (awp_go hmix (go_run' ttok 1 rfl (go_nil nd (then_norm ?_)))))))
       obtain ⟨y2, hx56, h⟩ := of_obind h
       refine awp_seqJ (X := (List Int)) [17] [] (fun w2 => [(18, (.arr 18 0 w2.length))]) (fun w2 => [(18, some ⟨3, 1, w2.map I⟩)]) (fun w2 => w2 = y2) rfl rfl ?_ ?_
       ·skip
        refine awp_seq (awp_go hmix (go_run' ttok 1 rfl (go_nil nd (then_norm (awp_block ?_)))))
        refine awp_loopD (X := (Int × Int × (List Int) × Int)) (Y := (List Int)) [1, 2, 3, 13, 17] [] (fun q => [(14, (I q.1)), (15, (I q.2.1)), (18, (.arr 18 0 q.2.2.1.length)), (19, (I q.2.2.2))]) (fun q => [(18, some ⟨3, 1, q.2.2.1.map I⟩)]) (fun q => resaw_Most_s3 kerf sizes prices sv q.1 q.2.1 q.2.2.1 q.2.2.2) ((W64 (thick + kerf)), vcount, [], 0) [(18, none)] hx56 ⟨rfl, rfl, rfl, rfl, rfl, ⟨wkP_id _ rfl, wkP_id _ rfl, ⟨rfl, rfl, (by first | rfl | (simp [setI]; done) | omega | (dsimp only; omega) | (simp [setI]; omega))⟩, wkP_id _ rfl, trivial⟩, ⟨rfl, trivial⟩⟩ (fun x1 vR2 vz2 hz58 hk59 => ?_)
        obtain ⟨room, vcount2, vlist1, i⟩ := x1
        change resaw_Most_s3 kerf sizes prices sv room vcount2 vlist1 i = _ at hz58
        unfold resaw_Most_s3 at hz58
        refine awp_seq (awp_seq (awp_go hmix (go_run' ttok 2 rfl (go_nil nd (then_norm ?_)))))
        refine awp_cond (b := (decide (0 < vcount2))) rfl (fun c60 => ?_) (fun c60 => ?_)
        ·replace hz58 := of_bif_t hz58 c60
         refine awp_skip (then_norm (awp_block (awp_seq (awp_go hmix (go_run' ttok 3 rfl ?_)))))
         obtain ⟨e12, hv61, hz58⟩ := of_obind hz58
         refine go_indexT I sizes i e12 hv61 ttok rfl rfl rfl rfl rfl rfl rfl rfl rfl ?_
         refine go_run' ttok 5 rfl (go_nil nd (then_norm (awp_seq (awp_go hmix (go_run' ttok 3 rfl ?_)))))
         refine go_gcase rfl rfl rfl (fun g62 => ?_) (fun g62 => ?_)
         ·rw [g62]
          replace hz58 := of_bif_t hz58 g62
          refine go_run' ttok 4 rfl ?_
          obtain ⟨e13, hv63, hz58⟩ := of_obind hz58
          refine go_indexT (encAr (encL I)) sv i e13 hv63 ttok rfl rfl rfl rfl rfl rfl rfl (ar_len _ rfl) rfl ?_
          obtain ⟨e14, hv64, hz58⟩ := of_obind hz58
          refine go_indexArV (encL I) e13 (W64 (vcount2 - 1)) e14 hv64 ttok rfl rfl rfl rfl rfl rfl rfl rfl rfl ?_
          refine go_loadV1 ttok rfl rfl rfl rfl rfl rfl rfl ?_
          refine go_run' ttok 1 rfl ?_
          obtain ⟨e15, hv65, hz58⟩ := of_obind hz58
          refine go_indexT I e14 (W64 ((W64 (room - e12)) - kerf)) e15 hv65 ttok rfl rfl rfl rfl rfl rfl rfl rfl rfl ?_
          refine go_run' ttok 4 rfl ?_
          refine go_gcase rfl rfl rfl (fun g66 => ?_) (fun g66 => ?_)
          ·rw [g66]
           replace hz58 := of_bif_t hz58 g66
           refine go_run' ttok 4 rfl ?_
           obtain ⟨e16, hv67, hz58⟩ := of_obind hz58
           refine go_indexT (encAr (encL I)) sv i e16 hv67 ttok rfl rfl rfl rfl rfl rfl rfl (ar_len _ rfl) rfl ?_
           obtain ⟨e17, hv68, hz58⟩ := of_obind hz58
           refine go_indexArV (encL I) e16 (W64 (vcount2 - 1)) e17 hv68 ttok rfl rfl rfl rfl rfl rfl rfl rfl rfl ?_
           refine go_loadV1 ttok rfl rfl rfl rfl rfl rfl rfl ?_
           refine go_run' ttok 1 rfl ?_
           obtain ⟨e18, hv69, hz58⟩ := of_obind hz58
           refine go_indexT I e17 (W64 ((W64 (room - e12)) - kerf)) e18 hv69 ttok rfl rfl rfl rfl rfl rfl rfl rfl rfl ?_
           refine go_run' ttok 3 rfl ?_
           obtain ⟨e19, hv70, hz58⟩ := of_obind hz58
           refine go_indexT I prices i e19 hv70 ttok rfl rfl rfl rfl rfl rfl rfl rfl rfl ?_
           refine go_run' ttok 5 rfl ?_
           obtain ⟨e20, hv71, hz58⟩ := of_obind hz58
           refine go_indexT (encAr (encL I)) sv i e20 hv71 ttok rfl rfl rfl rfl rfl rfl rfl (ar_len _ rfl) rfl ?_
           obtain ⟨e21, hv72, hz58⟩ := of_obind hz58
           refine go_indexArV (encL I) e20 vcount2 e21 hv72 ttok rfl rfl rfl rfl rfl rfl rfl rfl rfl ?_
           refine go_loadV1 ttok rfl rfl rfl rfl rfl rfl rfl ?_
           refine go_run' ttok 1 rfl ?_
           obtain ⟨e22, hv73, hz58⟩ := of_obind hz58
           refine go_indexT I e21 room e22 hv73 ttok rfl rfl rfl rfl rfl rfl rfl rfl rfl ?_
           refine go_run' ttok 3 rfl ?_
           refine go_nil (fun _ => by kernel_rfl) ?_
           refine then_norm ?_
           refine awp_cond (b := ((W64 (e18 + e19)) == e22)) rfl (fun c74 => ?_) (fun c74 => ?_)
           ·replace hz58 := of_bif_t hz58 c74
            refine awp_seq (awp_go hmix (go_run' ttok 3 rfl ?_))
            obtain ⟨l, hv75, hz58⟩ := of_obind hz58
            refine go_appT I vlist1 ([i]) l hv75 (fun _ => rfl) (by first | rfl | (simp [setI]; done) | omega | (dsimp only; omega) | (simp [setI]; omega)) (by first | rfl | (simp [setI]; done) | omega | (dsimp only; omega) | (simp [setI]; omega)) ttok rfl rfl rfl rfl rfl rfl rfl rfl rfl rfl rfl rfl rfl rfl rfl rfl rfl ?_
            refine go_run' ttok 1 rfl (go_nil nd (then_norm (awp_go hmix (go_run' ttok 5 rfl (go_nil nd (block_norm ?_))))))
            have e76 := of_some hz58
            subst e76
            refine then_norm ⟨rfl, ((W64 ((W64 (room - e12)) - kerf)), (W64 (vcount2 - 1)), l, i), [(18, some 159)], ⟨rfl, rfl, rfl, rfl, rfl, ⟨wkP_id _ rfl, wkP_id _ rfl, ⟨rfl, rfl, (by first | rfl | (simp [setI]; done) | omega | (dsimp only; omega) | (simp [setI]; omega))⟩, wkP_id _ rfl, trivial⟩, ⟨⟨_, rfl, rfl, rfl, wkX_map (enc := I) l (fun _ => rfl)⟩, trivial⟩⟩, hk59⟩
           ·replace hz58 := of_bif_f hz58 c74
            refine awp_go hmix (go_run' ttok 3 rfl (go_nil nd (block_norm ?_)))
            have e77 := of_some hz58
            subst e77
            refine then_norm ⟨rfl, (room, vcount2, vlist1, (W64 (i + 1))), [(18, some 18)], ⟨rfl, rfl, rfl, rfl, rfl, ⟨wkP_id _ rfl, wkP_id _ rfl, ⟨rfl, rfl, (by first | rfl | (simp [setI]; done) | omega | (dsimp only; omega) | (simp [setI]; omega))⟩, wkP_id _ rfl, trivial⟩, ⟨⟨_, rfl, rfl, rfl, wkX_map (enc := I) vlist1 (fun _ => rfl)⟩, trivial⟩⟩, hk59⟩
          ·rw [g66]
           replace hz58 := of_bif_f hz58 g66
           refine go_run' ttok 26 rfl ?_
           refine go_nil (fun _ => by kernel_rfl) ?_
           refine then_norm ?_
           refine awp_cond rfl (fun h => by cases h) (fun tt0 => ?_)
           clear tt0
           refine awp_go hmix (go_run' ttok 3 rfl (go_nil nd (block_norm ?_)))
           have e78 := of_some hz58
           subst e78
           refine then_norm ⟨rfl, (room, vcount2, vlist1, (W64 (i + 1))), [(18, some 18)], ⟨rfl, rfl, rfl, rfl, rfl, ⟨wkP_id _ rfl, wkP_id _ rfl, ⟨rfl, rfl, (by first | rfl | (simp [setI]; done) | omega | (dsimp only; omega) | (simp [setI]; omega))⟩, wkP_id _ rfl, trivial⟩, ⟨⟨_, rfl, rfl, rfl, wkX_map (enc := I) vlist1 (fun _ => rfl)⟩, trivial⟩⟩, hk59⟩
         ·rw [g62]
          replace hz58 := of_bif_f hz58 g62
          refine go_run' ttok 39 rfl ?_
          refine go_nil (fun _ => by kernel_rfl) ?_
          refine then_norm ?_
          refine awp_cond rfl (fun h => by cases h) (fun tt0 => ?_)
          clear tt0
          refine awp_go hmix (go_run' ttok 3 rfl (go_nil nd (block_norm ?_)))
          have e79 := of_some hz58
          subst e79
          refine then_norm ⟨rfl, (room, vcount2, vlist1, (W64 (i + 1))), [(18, some 18)], ⟨rfl, rfl, rfl, rfl, rfl, ⟨wkP_id _ rfl, wkP_id _ rfl, ⟨rfl, rfl, (by first | rfl | (simp [setI]; done) | omega | (dsimp only; omega) | (simp [setI]; omega))⟩, wkP_id _ rfl, trivial⟩, ⟨⟨_, rfl, rfl, rfl, wkX_map (enc := I) vlist1 (fun _ => rfl)⟩, trivial⟩⟩, hk59⟩
        ·replace hz58 := of_bif_f hz58 c60
         refine awp_exit (then_exit ?_)
         obtain ⟨t10, hn80, hq⟩ := of_mapr' hz58
         subst hq
         have hq : t10 = _ := hk59
         subst hq
         refine then_exit (block_here ?_)
         have e81 := of_some hn80
         refine then_norm ⟨rfl, vlist1, [(18, some 18)], ⟨rfl, rfl, rfl, rfl, rfl, ⟨⟨rfl, rfl, (by first | rfl | (simp [setI]; done) | omega | (dsimp only; omega) | (simp [setI]; omega))⟩, trivial⟩, ⟨⟨_, rfl, rfl, rfl, wkX_map (enc := I) vlist1 (fun _ => rfl)⟩, trivial⟩⟩, e81⟩
       ·intro vlist hw57
        subst hw57
        refine awp_seq (awp_go hmix (go_run' ttok 5 rfl (go_nil nd (then_norm ?_))))
        refine awp_freezeM [9, 10] [] [(18, some ⟨3, 1, vlist.map I⟩)] [] [(8, (encL I vlist))] [] rfl rfl rfl rfl rfl ⟨rfl, by decide, trivial⟩ ⟨(wkP_lend rfl (by first | rfl | (simp [setI]; done) | omega | (dsimp only; omega) | (simp [setI]; omega)) (fun _ => rfl)), trivial⟩ trivial ?_
        refine awp_ret ?_
        have e82 := of_some h
        subst e82
        refine ret_ret ?_
        refine fin0 ttok rfl rfl ?_
        exact wkP_refl _ rfl
noncomputable def resaw_Most_cs1 (N : Nat) (sizes : (List Int)) (prices : (List Int)) (vv : Int) : Option (Int ⊕ (((List Int) × Int × Int) ⊕ Unit)) :=
 (bif (decide (vv < ((sizes.length : Nat) : Int))) then (Option.bind (getI sizes vv) (fun e => (bif (decide (e < 1)) then some (Sum.inr (Sum.inl ([], 0, 9))) else (bif (decide (600 < e)) then some (Sum.inr (Sum.inl ([], 0, 9))) else (Option.bind (getI prices vv) (fun e1 => (bif (decide (e1 < 0)) then some (Sum.inr (Sum.inl ([], 0, 9))) else (Option.bind (getI prices vv) (fun e2 => (bif (decide (1000000 < e2)) then some (Sum.inr (Sum.inl ([], 0, 9))) else some (Sum.inl (W64 (vv + 1))))))))))))) else some (Sum.inr (Sum.inr ())))
theorem resaw_Most_cs1_le (N : Nat) (sizes : (List Int)) (prices : (List Int)) (vv : Int) : OLe (resaw_Most_cs1 N sizes prices vv) (resaw_Most_s1 sizes prices vv) := by
 unfold resaw_Most_cs1 resaw_Most_s1
 repeat' (first | exact ole_rfl | exact resaw_sums_le _ _ _ _ _ | refine ole_bif ?_ ?_ | refine ole_bind ?_ (fun _ => ?_) | refine ole_let (fun _ => ?_) | refine ole_map ?_ | refine ole_elim (fun _ => ?_) (fun _ => ?_) | refine ole_loop (fun _ => ?_))
noncomputable def resaw_Most_cs2 (N : Nat) (thick : Int) (kerf : Int) (sv : (List (Ar 9 (List Int)))) (vcount1 : Int) (vv1 : Int) : Option ((Int × Int) ⊕ Int) :=
 (bif (decide (vv1 < 9)) then (Option.bind (getI sv 0) (fun e3 => (Option.bind (getI e3.1 vv1) (fun e4 => (Option.bind (getI e4 (W64 (thick + kerf))) (fun e5 => (Option.bind (getI sv 0) (fun e6 => (Option.bind (getI e6.1 vcount1) (fun e7 => (Option.bind (getI e7 (W64 (thick + kerf))) (fun e8 => (bif (decide (e8 < e5)) then some (Sum.inl (vv1, (W64 (vv1 + 1)))) else some (Sum.inl (vcount1, (W64 (vv1 + 1))))))))))))))))) else some (Sum.inr vcount1))
theorem resaw_Most_cs2_le (N : Nat) (thick : Int) (kerf : Int) (sv : (List (Ar 9 (List Int)))) (vcount1 : Int) (vv1 : Int) : OLe (resaw_Most_cs2 N thick kerf sv vcount1 vv1) (resaw_Most_s2 thick kerf sv vcount1 vv1) := by
 unfold resaw_Most_cs2 resaw_Most_s2
 repeat' (first | exact ole_rfl | exact resaw_sums_le _ _ _ _ _ | exact resaw_Most_cs1_le _ _ _ _ | refine ole_bif ?_ ?_ | refine ole_bind ?_ (fun _ => ?_) | refine ole_let (fun _ => ?_) | refine ole_map ?_ | refine ole_elim (fun _ => ?_) (fun _ => ?_) | refine ole_loop (fun _ => ?_))
noncomputable def resaw_Most_cs3 (N : Nat) (kerf : Int) (sizes : (List Int)) (prices : (List Int)) (sv : (List (Ar 9 (List Int)))) (room : Int) (vcount2 : Int) (vlist1 : (List Int)) (i : Int) : Option ((Int × Int × (List Int) × Int) ⊕ (List Int)) :=
 (bif (decide (0 < vcount2)) then (Option.bind (getI sizes i) (fun e12 => (bif (decide (0 ≤ (W64 ((W64 (room - e12)) - kerf)))) then (Option.bind (getI sv i) (fun e13 => (Option.bind (getI e13.1 (W64 (vcount2 - 1))) (fun e14 => (Option.bind (getI e14 (W64 ((W64 (room - e12)) - kerf))) (fun e15 => (bif (decide (0 ≤ e15)) then (Option.bind (getI sv i) (fun e16 => (Option.bind (getI e16.1 (W64 (vcount2 - 1))) (fun e17 => (Option.bind (getI e17 (W64 ((W64 (room - e12)) - kerf))) (fun e18 => (Option.bind (getI prices i) (fun e19 => (Option.bind (getI sv i) (fun e20 => (Option.bind (getI e20.1 vcount2) (fun e21 => (Option.bind (getI e21 room) (fun e22 => (bif ((W64 (e18 + e19)) == e22) then (Option.bind (appO 8 vlist1 ([i])) (fun l => some (Sum.inl ((W64 ((W64 (room - e12)) - kerf)), (W64 (vcount2 - 1)), l, i)))) else some (Sum.inl (room, vcount2, vlist1, (W64 (i + 1))))))))))))))))))) else some (Sum.inl (room, vcount2, vlist1, (W64 (i + 1))))))))))) else some (Sum.inl (room, vcount2, vlist1, (W64 (i + 1))))))) else some (Sum.inr vlist1))
theorem resaw_Most_cs3_le (N : Nat) (kerf : Int) (sizes : (List Int)) (prices : (List Int)) (sv : (List (Ar 9 (List Int)))) (room : Int) (vcount2 : Int) (vlist1 : (List Int)) (i : Int) : OLe (resaw_Most_cs3 N kerf sizes prices sv room vcount2 vlist1 i) (resaw_Most_s3 kerf sizes prices sv room vcount2 vlist1 i) := by
 unfold resaw_Most_cs3 resaw_Most_s3
 repeat' (first | exact ole_rfl | exact resaw_sums_le _ _ _ _ _ | exact resaw_Most_cs1_le _ _ _ _ | exact resaw_Most_cs2_le _ _ _ _ _ _ | refine ole_bif ?_ ?_ | refine ole_bind ?_ (fun _ => ?_) | refine ole_let (fun _ => ?_) | refine ole_map ?_ | refine ole_elim (fun _ => ?_) (fun _ => ?_) | refine ole_loop (fun _ => ?_))
noncomputable def resaw_Most_c (N : Nat) (thick : Int) (kerf : Int) (sizes : (List Int)) (prices : (List Int)) : Option ((List Int) × Int × Int) :=
 (bif (!(resaw_isSaw_g thick kerf)) then some ([], 0, 9) else (bif (((sizes.length : Nat) : Int) == 0) then some ([], 0, 3) else (bif (decide (32 < ((sizes.length : Nat) : Int))) then some ([], 0, 4) else (bif (((prices.length : Nat) : Int) != ((sizes.length : Nat) : Int)) then some ([], 0, 19) else (Option.bind ((iterX N (fun q => resaw_Most_cs1 N sizes prices q) 0) : Option (((List Int) × Int × Int) ⊕ Unit)) (Sum.elim (fun q => some q) (fun _ => (Option.bind ((resaw_sums_c N) (W64 (thick + kerf)) kerf sizes prices) (fun sv => (Option.bind ((iterX N (fun q => resaw_Most_cs2 N thick kerf sv q.1 q.2) (0, 0)) : Option Int) (fun vcount => (Option.bind (getI sv 0) (fun e9 => (Option.bind (getI e9.1 vcount) (fun e10 => (Option.bind (getI e10 (W64 (thick + kerf))) (fun e11 => (Option.bind ((iterX N (fun q => resaw_Most_cs3 N kerf sizes prices sv q.1 q.2.1 q.2.2.1 q.2.2.2) ((W64 (thick + kerf)), vcount, [], 0)) : Option (List Int)) (fun vlist => some (vlist, e11, 0))))))))))))))))))))
theorem resaw_Most_le (N : Nat) (thick : Int) (kerf : Int) (sizes : (List Int)) (prices : (List Int)) : OLe (resaw_Most_c N thick kerf sizes prices) (resaw_Most_g thick kerf sizes prices) := by
 unfold resaw_Most_c resaw_Most_g
 repeat' (first | exact ole_rfl | exact resaw_sums_le _ _ _ _ _ | exact resaw_Most_cs1_le _ _ _ _ | exact resaw_Most_cs2_le _ _ _ _ _ _ | exact resaw_Most_cs3_le _ _ _ _ _ _ _ _ _ | refine ole_bif ?_ ?_ | refine ole_bind ?_ (fun _ => ?_) | refine ole_let (fun _ => ?_) | refine ole_map ?_ | refine ole_elim (fun _ => ?_) (fun _ => ?_) | refine ole_loop (fun _ => ?_))

/-- sawmill/sawmilllaw27.sample -/
noncomputable def l27_sample_g : Tsawmilllaw27_Split :=
 (⟨(⟨(⟨#[120]⟩ : ByteArray), (⟨#[]⟩ : ByteArray), (⟨#[]⟩ : ByteArray), 0, (⟨(⟨0, 105⟩ : Sp), (⟨10, 52⟩ : Sp), (⟨100, 2100⟩ : Sp)⟩ : Bx), 0, [], 0, (⟨0, 0, 0⟩ : TCell), false, 0⟩ : TBoard), [(⟨(⟨#[112, 108, 97, 110, 107]⟩ : ByteArray), 40, 100, 50, 0, [2000], [70]⟩ : TProduct), (⟨(⟨#[108, 97, 116, 104]⟩ : ByteArray), 17, 100, 50, 0, [2000], [20]⟩ : TProduct)], [1, 1], 4⟩ : Tsawmilllaw27_Split)
theorem l27_sample_w (r : Tsawmilllaw27_Split) (h : l27_sample_g = r) : Holds Try.prog 32 [] [] (encTsawmilllaw27_Split r) [] := by
 unfold l27_sample_g at h
 refine holds_fn Try.func32 rfl Try.ntmps32 rfl rfl rfl (fun lim => ?_)
 refine awp_seq (awp_go hmix (go_run' ttok 1 rfl (go_nil nd (then_norm (awp_seq ?_)))))
 refine awp_goS 6 rfl rfl ?_
 refine go_run' ttok 6 rfl (go_nil nd ?_)
 refine goS_freeze [0] [0] [(3, some ⟨3, 1, ([2000]).map I⟩), (4, some ⟨3, 1, ([70]).map I⟩), (6, some ⟨3, 1, ([2000]).map I⟩), (7, some ⟨3, 1, ([20]).map I⟩)] [(0, some 0)] [(5, (.agg [(S (⟨#[112, 108, 97, 110, 107]⟩ : ByteArray)), (I 40), (I 100), (I 50), (I 0), (encL I ([2000])), (encL I ([70]))])), (8, (.agg [(S (⟨#[108, 97, 116, 104]⟩ : ByteArray)), (I 17), (I 100), (I 50), (I 0), (encL I ([2000])), (encL I ([20]))]))] [] rfl rfl rfl rfl rfl ⟨rfl, by decide, rfl, by decide, rfl, by decide, rfl, by decide, trivial⟩ ⟨⟨(wkP_id _ rfl), (wkP_id _ rfl), (wkP_id _ rfl), (wkP_id _ rfl), (wkP_id _ rfl), (wkP_lend rfl (by first | rfl | (simp [setI]; done) | omega | (dsimp only; omega) | (simp [setI]; omega)) (fun _ => rfl)), (wkP_lend rfl (by first | rfl | (simp [setI]; done) | omega | (dsimp only; omega) | (simp [setI]; omega)) (fun _ => rfl)), trivial⟩, ⟨(wkP_id _ rfl), (wkP_id _ rfl), (wkP_id _ rfl), (wkP_id _ rfl), (wkP_id _ rfl), (wkP_lend rfl (by first | rfl | (simp [setI]; done) | omega | (dsimp only; omega) | (simp [setI]; omega)) (fun _ => rfl)), (wkP_lend rfl (by first | rfl | (simp [setI]; done) | omega | (dsimp only; omega) | (simp [setI]; omega)) (fun _ => rfl)), trivial⟩, trivial⟩ trivial ?_
 refine go_run' ttok 2 rfl (go_nil nd (then_norm (awp_seq (awp_go hmix (go_run' ttok 7 rfl (go_nil nd (then_norm (awp_seq (awp_go hmix (go_run' ttok 5 rfl (go_nil nd (then_norm ?_))))))))))))
 refine awp_freezeM [0] [] [(9, some ⟨74, 7, ([(⟨(⟨#[112, 108, 97, 110, 107]⟩ : ByteArray), 40, 100, 50, 0, [2000], [70]⟩ : TProduct), (⟨(⟨#[108, 97, 116, 104]⟩ : ByteArray), 17, 100, 50, 0, [2000], [20]⟩ : TProduct)]).map encTProduct⟩), (17, some ⟨3, 1, ([1, 1]).map I⟩)] [(0, some 0)] [] [(0, some ⟨47, 21, [(.agg [(S (⟨#[120]⟩ : ByteArray)), (S (⟨#[]⟩ : ByteArray)), (S (⟨#[]⟩ : ByteArray)), (I 0), (I 0), (I 105), (I 10), (I 52), (I 100), (I 2100), (I 0), .nilS, (I 0), (I 0), (I 0), (I 0), (B false), (I 0), (encL encTProduct ([(⟨(⟨#[112, 108, 97, 110, 107]⟩ : ByteArray), 40, 100, 50, 0, [2000], [70]⟩ : TProduct), (⟨(⟨#[108, 97, 116, 104]⟩ : ByteArray), 17, 100, 50, 0, [2000], [20]⟩ : TProduct)])), (encL I ([1, 1])), (I 4)])]⟩)] rfl rfl rfl rfl rfl ⟨rfl, by decide, rfl, by decide, trivial⟩ trivial ⟨⟨_, rfl, rfl, rfl, .inr ⟨⟨⟨(wkP_id _ rfl), (wkP_id _ rfl), (wkP_id _ rfl), (wkP_id _ rfl), (wkP_id _ rfl), (wkP_id _ rfl), (wkP_id _ rfl), (wkP_id _ rfl), (wkP_id _ rfl), (wkP_id _ rfl), (wkP_id _ rfl), (wkP_id _ rfl), (wkP_id _ rfl), (wkP_id _ rfl), (wkP_id _ rfl), (wkP_id _ rfl), (wkP_id _ rfl), (wkP_id _ rfl), (wkP_lend rfl (by first | rfl | (simp [setI]; done) | omega | (dsimp only; omega) | (simp [setI]; omega)) (fun _ => rfl)), (wkP_lend rfl (by first | rfl | (simp [setI]; done) | omega | (dsimp only; omega) | (simp [setI]; omega)) (fun _ => rfl)), (wkP_id _ rfl), trivial⟩, trivial⟩, ⟨rfl, trivial⟩⟩⟩, trivial⟩ ?_
 refine awp_ret ?_
 have e1 := h
 subst e1
 refine ret_ret ?_
 refine fin0 ttok rfl rfl ?_
 exact ⟨(wkP_refl _ rfl), (wkP_refl _ rfl), (wkP_refl _ rfl), (wkP_refl _ rfl), (wkP_refl _ rfl), (wkP_refl _ rfl), (wkP_refl _ rfl), (wkP_refl _ rfl), (wkP_refl _ rfl), (wkP_refl _ rfl), (wkP_refl _ rfl), wkP_nilm, (wkP_refl _ rfl), (wkP_refl _ rfl), (wkP_refl _ rfl), (wkP_refl _ rfl), (wkP_refl _ rfl), (wkP_refl _ rfl), (wkP_refl _ rfl), (wkP_refl _ rfl), (wkP_refl _ rfl), trivial⟩

/-- sawmill/ident.isSmall -/
noncomputable def ident_isSmall_g (c : Int) : Bool :=
 (bif (decide (97 ≤ c)) then (decide (c ≤ 122)) else false)
theorem ident_isSmall_w (c : Int) (r : Bool) (h : ident_isSmall_g c = r) : Holds Try.prog 86 [(U8 c)] [] (B r) [] := by
 unfold ident_isSmall_g at h
 refine holds_fn Try.func86 rfl Try.ntmps86 rfl rfl rfl (fun lim => ?_)
 refine awp_seq (awp_go hmix (go_run' ttok 1 rfl (go_nil nd (then_norm (awp_seq (awp_go hmix (go_run' ttok 3 rfl ?_)))))))
 refine go_gcase rfl rfl rfl (fun g1 => ?_) (fun g1 => ?_)
 ·rw [g1]
  replace h := of_bif_t h g1
  refine go_run' ttok 4 rfl (go_nil nd (then_norm (awp_ret ?_)))
  have e2 := h
  subst e2
  refine ret_ret ?_
  refine fin0 ttok rfl rfl ?_
  exact (wkP_refl _ rfl)
 ·rw [g1]
  replace h := of_bif_f h g1
  refine go_run' ttok 4 rfl (go_nil nd (then_norm (awp_ret ?_)))
  have e3 := h
  subst e3
  refine ret_ret ?_
  refine fin0 ttok rfl rfl ?_
  exact (wkP_refl _ rfl)

/-- sawmill/ident.isDigit -/
noncomputable def ident_isDigit_g (c : Int) : Bool :=
 (bif (decide (48 ≤ c)) then (decide (c ≤ 57)) else false)
theorem ident_isDigit_w (c : Int) (r : Bool) (h : ident_isDigit_g c = r) : Holds Try.prog 87 [(U8 c)] [] (B r) [] := by
 unfold ident_isDigit_g at h
 refine holds_fn Try.func87 rfl Try.ntmps87 rfl rfl rfl (fun lim => ?_)
 refine awp_seq (awp_go hmix (go_run' ttok 1 rfl (go_nil nd (then_norm (awp_seq (awp_go hmix (go_run' ttok 3 rfl ?_)))))))
 refine go_gcase rfl rfl rfl (fun g1 => ?_) (fun g1 => ?_)
 ·rw [g1]
  replace h := of_bif_t h g1
  refine go_run' ttok 4 rfl (go_nil nd (then_norm (awp_ret ?_)))
  have e2 := h
  subst e2
  refine ret_ret ?_
  refine fin0 ttok rfl rfl ?_
  exact (wkP_refl _ rfl)
 ·rw [g1]
  replace h := of_bif_f h g1
  refine go_run' ttok 4 rfl (go_nil nd (then_norm (awp_ret ?_)))
  have e3 := h
  subst e3
  refine ret_ret ?_
  refine fin0 ttok rfl rfl ?_
  exact (wkP_refl _ rfl)

noncomputable def ident_IsName_s1 (s : ByteArray) (i : Int) : Option (Int ⊕ (Bool ⊕ Unit)) :=
 (bif (decide (i < ((s.size : Nat) : Int))) then (Option.bind (bytO s i) (fun c1 => (bif (!(ident_isSmall_g c1)) then (bif (!(ident_isDigit_g c1)) then (bif (c1 != 95) then some (Sum.inr (Sum.inl false)) else some (Sum.inl (W64 (i + 1)))) else some (Sum.inl (W64 (i + 1)))) else some (Sum.inl (W64 (i + 1)))))) else some (Sum.inr (Sum.inr ())))
/-- sawmill/ident.IsName -/
noncomputable def ident_IsName_g (s : ByteArray) : Option Bool :=
 (bif (decide (((s.size : Nat) : Int) < 1)) then some false else (bif (decide (16 < ((s.size : Nat) : Int))) then some false else (Option.bind (bytO s 0) (fun c => (bif (!(ident_isSmall_g c)) then some false else (Option.bind ((loopO (fun q => ident_IsName_s1 s q) 1) : Option (Bool ⊕ Unit)) (Sum.elim (fun q => some q) (fun _ => some true))))))))
theorem ident_IsName_w (s : ByteArray) (r : Bool) (h : ident_IsName_g s = some r) : Holds Try.prog 65 [(S s)] [] (B r) [] := by
 unfold ident_IsName_g at h
 refine holds_fn Try.func65 rfl Try.ntmps65 rfl rfl rfl (fun lim => ?_)
 refine awp_seq (awp_go hmix (go_run' ttok 1 rfl (go_nil nd (then_norm (awp_seq (awp_seq (awp_go hmix (go_run' ttok 4 rfl ?_))))))))
 refine go_gcase rfl rfl rfl (fun g1 => ?_) (fun g1 => ?_)
 ·rw [g1]
  replace h := of_bif_t h g1
  refine go_run' ttok 10 rfl (go_nil nd (then_norm ?_))
  refine awp_cond rfl (fun tt0 => ?_) (fun h => by cases h)
  clear tt0
  refine awp_seq (awp_go hmix (go_run' ttok 1 rfl (go_nil nd (then_norm (awp_ret (then_ret ?_))))))
  have e2 := of_some h
  subst e2
  refine ret_ret ?_
  refine fin0 ttok rfl rfl ?_
  exact (wkP_refl _ rfl)
 ·rw [g1]
  replace h := of_bif_f h g1
  refine go_run' ttok 5 rfl ?_
  refine go_gcase rfl rfl rfl (fun g3 => ?_) (fun g3 => ?_)
  ·rw [g3]
   replace h := of_bif_t h g3
   refine go_run' ttok 5 rfl (go_nil nd (then_norm ?_))
   refine awp_cond rfl (fun tt0 => ?_) (fun h => by cases h)
   clear tt0
   refine awp_seq (awp_go hmix (go_run' ttok 1 rfl (go_nil nd (then_norm (awp_ret (then_ret ?_))))))
   have e4 := of_some h
   subst e4
   refine ret_ret ?_
   refine fin0 ttok rfl rfl ?_
   exact (wkP_refl _ rfl)
  ·rw [g3]
   replace h := of_bif_f h g3
   refine go_run' ttok 1 rfl ?_
   obtain ⟨c, hv5, h⟩ := of_obind h
   refine go_indexB s 0 c hv5 ttok rfl rfl rfl rfl rfl rfl rfl ?_
   refine go_call fn86 (ident_isSmall_w c _ rfl) rfl rfl rfl rfl rfl rfl rfl ?_
   refine go_run' ttok 2 rfl (go_nil nd (then_norm ?_))
   refine awp_cond (b := (!(ident_isSmall_g c))) rfl (fun c6 => ?_) (fun c6 => ?_)
   ·replace h := of_bif_t h c6
    refine awp_seq (awp_go hmix (go_run' ttok 1 rfl (go_nil nd (then_norm (awp_ret (then_ret ?_))))))
    have e7 := of_some h
    subst e7
    refine ret_ret ?_
    refine fin0 ttok rfl rfl ?_
    exact (wkP_refl _ rfl)
   ·replace h := of_bif_f h c6
    refine awp_skip (then_norm ?_)
    obtain ⟨y, hx8, h⟩ := of_obind h
    refine awp_seqJ (X := Unit) [] [] (fun _ => []) (fun _ => []) (fun w => Sum.inr w = y) rfl rfl ?_ ?_
    ·skip
     refine awp_seq (awp_go hmix (go_run' ttok 1 rfl (go_nil nd (then_norm (awp_block ?_)))))
     refine awp_loopD (X := Int) (Y := (Bool ⊕ Unit)) [0] [] (fun q => [(3, (I q))]) (fun q => []) (fun q => ident_IsName_s1 s q) 1 [] hx8 ⟨rfl, rfl, rfl, rfl, rfl, ⟨wkP_id _ rfl, trivial⟩, trivial⟩ (fun i vR vz hz10 hk11 => ?_)
     change ident_IsName_s1 s i = _ at hz10
     unfold ident_IsName_s1 at hz10
     refine awp_seq (awp_seq (awp_go hmix (go_run' ttok 4 rfl (go_nil nd (then_norm ?_)))))
     refine awp_cond (b := (decide (i < ((s.size : Nat) : Int)))) rfl (fun c12 => ?_) (fun c12 => ?_)
     ·replace hz10 := of_bif_t hz10 c12
      refine awp_skip (then_norm (awp_seq (awp_block (awp_seq (awp_go hmix (go_run' ttok 2 rfl ?_))))))
      obtain ⟨c1, hv13, hz10⟩ := of_obind hz10
      refine go_indexB s i c1 hv13 ttok rfl rfl rfl rfl rfl rfl rfl ?_
      refine go_run' ttok 1 rfl (go_nil nd (then_norm (awp_seq (awp_go hmix (go_run' ttok 1 rfl ?_)))))
      refine go_call fn86 (ident_isSmall_w c1 _ rfl) rfl rfl rfl rfl rfl rfl rfl ?_
      refine go_run' ttok 2 rfl ?_
      refine go_gcase rfl rfl rfl (fun g14 => ?_) (fun g14 => ?_)
      ·rw [g14]
       replace hz10 := of_bif_t hz10 g14
       refine go_run' ttok 1 rfl ?_
       refine go_call fn87 (ident_isDigit_w c1 _ rfl) rfl rfl rfl rfl rfl rfl rfl ?_
       refine go_run' ttok 3 rfl ?_
       refine go_gcase rfl rfl rfl (fun g15 => ?_) (fun g15 => ?_)
       ·rw [g15]
        replace hz10 := of_bif_t hz10 g15
        refine go_run' ttok 3 rfl (go_nil nd (then_norm ?_))
        refine awp_cond (b := (c1 != 95)) rfl (fun c16 => ?_) (fun c16 => ?_)
        ·replace hz10 := of_bif_t hz10 c16
         refine awp_seq (awp_go hmix (go_run' ttok 1 rfl (go_nil nd (then_norm (awp_ret (block_ret (then_ret ?_)))))))
         obtain ⟨t, hn17, hq⟩ := of_mapr' hz10
         subst hq
         have hq : t = _ := hk11
         subst hq
         refine then_ret (block_ret ?_)
         obtain ⟨t1, hn18, hq⟩ := of_mapl' hn17
         subst hq
         have hq := of_inl h
         replace hq := of_some hq
         subst hq
         refine then_ret ?_
         have e19 := of_some hn18
         subst e19
         refine ret_ret ?_
         refine fin0 ttok rfl rfl ?_
         exact (wkP_refl _ rfl)
        ·replace hz10 := of_bif_f hz10 c16
         refine awp_skip (block_norm (then_norm (awp_go hmix (go_run' ttok 3 rfl (go_nil nd ?_)))))
         have e20 := of_some hz10
         subst e20
         refine then_norm ⟨rfl, (W64 (i + 1)), [], ⟨rfl, rfl, rfl, rfl, rfl, ⟨wkP_id _ rfl, trivial⟩, trivial⟩, hk11⟩
       ·rw [g15]
        replace hz10 := of_bif_f hz10 g15
        refine go_run' ttok 3 rfl (go_nil nd (then_norm ?_))
        refine awp_cond rfl (fun h => by cases h) (fun tt0 => ?_)
        clear tt0
        refine awp_skip (block_norm (then_norm (awp_go hmix (go_run' ttok 3 rfl (go_nil nd ?_)))))
        have e21 := of_some hz10
        subst e21
        refine then_norm ⟨rfl, (W64 (i + 1)), [], ⟨rfl, rfl, rfl, rfl, rfl, ⟨wkP_id _ rfl, trivial⟩, trivial⟩, hk11⟩
      ·rw [g14]
       replace hz10 := of_bif_f hz10 g14
       refine go_run' ttok 8 rfl (go_nil nd (then_norm ?_))
       refine awp_cond rfl (fun h => by cases h) (fun tt0 => ?_)
       clear tt0
       refine awp_skip (block_norm (then_norm (awp_go hmix (go_run' ttok 3 rfl (go_nil nd ?_)))))
       have e22 := of_some hz10
       subst e22
       refine then_norm ⟨rfl, (W64 (i + 1)), [], ⟨rfl, rfl, rfl, rfl, rfl, ⟨wkP_id _ rfl, trivial⟩, trivial⟩, hk11⟩
     ·replace hz10 := of_bif_f hz10 c12
      refine awp_exit (then_exit ?_)
      obtain ⟨t2, hn23, hq⟩ := of_mapr' hz10
      subst hq
      have hq : t2 = _ := hk11
      subst hq
      refine then_exit (block_here ?_)
      have e24 := of_some hn23
      refine then_norm ⟨rfl, (), [], ⟨rfl, rfl, rfl, rfl, rfl, trivial, trivial⟩, e24⟩
    ·intro w hw9
     subst hw9
     replace h := of_inr h
     refine awp_seq (awp_go hmix (go_run' ttok 1 rfl (go_nil nd (then_norm (awp_ret ?_)))))
     have e25 := of_some h
     subst e25
     refine ret_ret ?_
     refine fin0 ttok rfl rfl ?_
     exact (wkP_refl _ rfl)
noncomputable def ident_IsName_cs1 (N : Nat) (s : ByteArray) (i : Int) : Option (Int ⊕ (Bool ⊕ Unit)) :=
 (bif (decide (i < ((s.size : Nat) : Int))) then (Option.bind (bytO s i) (fun c1 => (bif (!(ident_isSmall_g c1)) then (bif (!(ident_isDigit_g c1)) then (bif (c1 != 95) then some (Sum.inr (Sum.inl false)) else some (Sum.inl (W64 (i + 1)))) else some (Sum.inl (W64 (i + 1)))) else some (Sum.inl (W64 (i + 1)))))) else some (Sum.inr (Sum.inr ())))
theorem ident_IsName_cs1_le (N : Nat) (s : ByteArray) (i : Int) : OLe (ident_IsName_cs1 N s i) (ident_IsName_s1 s i) := by
 unfold ident_IsName_cs1 ident_IsName_s1
 repeat' (first | exact ole_rfl | refine ole_bif ?_ ?_ | refine ole_bind ?_ (fun _ => ?_) | refine ole_let (fun _ => ?_) | refine ole_map ?_ | refine ole_elim (fun _ => ?_) (fun _ => ?_) | refine ole_loop (fun _ => ?_))
noncomputable def ident_IsName_c (N : Nat) (s : ByteArray) : Option Bool :=
 (bif (decide (((s.size : Nat) : Int) < 1)) then some false else (bif (decide (16 < ((s.size : Nat) : Int))) then some false else (Option.bind (bytO s 0) (fun c => (bif (!(ident_isSmall_g c)) then some false else (Option.bind ((iterX N (fun q => ident_IsName_cs1 N s q) 1) : Option (Bool ⊕ Unit)) (Sum.elim (fun q => some q) (fun _ => some true))))))))
theorem ident_IsName_le (N : Nat) (s : ByteArray) : OLe (ident_IsName_c N s) (ident_IsName_g s) := by
 unfold ident_IsName_c ident_IsName_g
 repeat' (first | exact ole_rfl | exact ident_IsName_cs1_le _ _ _ | refine ole_bif ?_ ?_ | refine ole_bind ?_ (fun _ => ?_) | refine ole_let (fun _ => ?_) | refine ole_map ?_ | refine ole_elim (fun _ => ?_) (fun _ => ?_) | refine ole_loop (fun _ => ?_))

noncomputable def product_Find_s1 (l : (List TProduct)) (name : ByteArray) (vv : Int) : Option (Int ⊕ ((Int × Bool) ⊕ Unit)) :=
 (bif (decide (vv < ((l.length : Nat) : Int))) then (Option.bind (getI l vv) (fun e => (bif (bEq e.Name name) then some (Sum.inr (Sum.inl (vv, true))) else some (Sum.inl (W64 (vv + 1)))))) else some (Sum.inr (Sum.inr ())))
/-- sawmill/product.Find -/
noncomputable def product_Find_g (l : (List TProduct)) (name : ByteArray) : Option (Int × Bool) :=
 (Option.bind ((loopO (fun q => product_Find_s1 l name q) 0) : Option ((Int × Bool) ⊕ Unit)) (Sum.elim (fun q => some q) (fun _ => some (0, false))))
theorem product_Find_w (l : (List TProduct)) (name : ByteArray) (r : (Int × Bool)) (h : product_Find_g l name = some r) : Holds Try.prog 66 [((encL encTProduct) l), (S name)] [] (.tup [(I r.1), (B r.2)]) [] := by
 unfold product_Find_g at h
 refine holds_fn Try.func66 rfl Try.ntmps66 rfl rfl rfl (fun lim => ?_)
 refine awp_seq (awp_go hmix (go_run' ttok 2 rfl (go_nil nd (then_norm ?_))))
 obtain ⟨y, hx1, h⟩ := of_obind h
 refine awp_seqJ (X := Unit) [] [] (fun _ => []) (fun _ => []) (fun w => Sum.inr w = y) rfl rfl ?_ ?_
 ·skip
  refine awp_seq (awp_go hmix (go_run' ttok 1 rfl ?_))
  refine go_lenT encTProduct l ttok rfl rfl rfl rfl rfl rfl ?_
  refine go_run' ttok 1 rfl (go_nil nd (then_norm (awp_block ?_)))
  refine awp_loopD (X := Int) (Y := ((Int × Bool) ⊕ Unit)) [1, 8, 9] [] (fun q => [(10, (I q))]) (fun q => []) (fun q => product_Find_s1 l name q) 0 [] hx1 ⟨rfl, rfl, rfl, rfl, rfl, ⟨wkP_id _ rfl, trivial⟩, trivial⟩ (fun vv vR vz hz3 hk4 => ?_)
  change product_Find_s1 l name vv = _ at hz3
  unfold product_Find_s1 at hz3
  refine awp_seq (awp_go hmix (go_run' ttok 1 rfl (go_nil nd (then_norm (awp_seq ?_)))))
  refine awp_cond (b := (decide (vv < ((l.length : Nat) : Int)))) rfl (fun c5 => ?_) (fun c5 => ?_)
  ·replace hz3 := of_bif_t hz3 c5
   refine awp_skip (then_norm (awp_seq (awp_block (awp_seq (awp_go hmix (go_run' ttok 1 rfl ?_))))))
   obtain ⟨e, hv6, hz3⟩ := of_obind hz3
   refine go_indexT encTProduct l vv e hv6 ttok rfl rfl rfl rfl rfl rfl rfl rfl rfl ?_
   refine go_run' ttok 4 rfl (go_nil nd (then_norm (awp_seq (awp_go hmix (go_run' ttok 3 rfl ?_)))))
   refine go_eqlS e.Name name rfl rfl rfl rfl rfl ?_
   refine go_nil nd (then_norm ?_)
   refine awp_cond (b := (bEq e.Name name)) rfl (fun c7 => ?_) (fun c7 => ?_)
   ·replace hz3 := of_bif_t hz3 c7
    refine awp_seq (awp_go hmix (go_run' ttok 3 rfl (go_nil nd (then_norm (awp_ret (block_ret (then_ret ?_)))))))
    obtain ⟨t, hn8, hq⟩ := of_mapr' hz3
    subst hq
    have hq : t = _ := hk4
    subst hq
    refine then_ret (block_ret ?_)
    obtain ⟨t1, hn9, hq⟩ := of_mapl' hn8
    subst hq
    have hq := of_inl h
    replace hq := of_some hq
    subst hq
    refine then_ret ?_
    have e10 := of_some hn9
    subst e10
    refine ret_ret ?_
    refine fin0 ttok rfl rfl ?_
    exact wkP_refl _ rfl
   ·replace hz3 := of_bif_f hz3 c7
    refine awp_skip (block_norm (then_norm (awp_go hmix (go_run' ttok 2 rfl (go_nil nd ?_)))))
    have e11 := of_some hz3
    subst e11
    refine then_norm ⟨rfl, (W64 (vv + 1)), [], ⟨rfl, rfl, rfl, rfl, rfl, ⟨wkP_id _ rfl, trivial⟩, trivial⟩, hk4⟩
  ·replace hz3 := of_bif_f hz3 c5
   refine awp_exit (then_exit ?_)
   obtain ⟨t2, hn12, hq⟩ := of_mapr' hz3
   subst hq
   have hq : t2 = _ := hk4
   subst hq
   refine then_exit (block_here ?_)
   have e13 := of_some hn12
   refine then_norm ⟨rfl, (), [], ⟨rfl, rfl, rfl, rfl, rfl, trivial, trivial⟩, e13⟩
 ·intro w hw2
  subst hw2
  replace h := of_inr h
  refine awp_seq (awp_go hmix (go_run' ttok 2 rfl (go_nil nd (then_norm (awp_ret ?_)))))
  have e14 := of_some h
  subst e14
  refine ret_ret ?_
  refine fin0 ttok rfl rfl ?_
  exact wkP_refl _ rfl
noncomputable def product_Find_cs1 (N : Nat) (l : (List TProduct)) (name : ByteArray) (vv : Int) : Option (Int ⊕ ((Int × Bool) ⊕ Unit)) :=
 (bif (decide (vv < ((l.length : Nat) : Int))) then (Option.bind (getI l vv) (fun e => (bif (bEq e.Name name) then some (Sum.inr (Sum.inl (vv, true))) else some (Sum.inl (W64 (vv + 1)))))) else some (Sum.inr (Sum.inr ())))
theorem product_Find_cs1_le (N : Nat) (l : (List TProduct)) (name : ByteArray) (vv : Int) : OLe (product_Find_cs1 N l name vv) (product_Find_s1 l name vv) := by
 unfold product_Find_cs1 product_Find_s1
 repeat' (first | exact ole_rfl | refine ole_bif ?_ ?_ | refine ole_bind ?_ (fun _ => ?_) | refine ole_let (fun _ => ?_) | refine ole_map ?_ | refine ole_elim (fun _ => ?_) (fun _ => ?_) | refine ole_loop (fun _ => ?_))
noncomputable def product_Find_c (N : Nat) (l : (List TProduct)) (name : ByteArray) : Option (Int × Bool) :=
 (Option.bind ((iterX N (fun q => product_Find_cs1 N l name q) 0) : Option ((Int × Bool) ⊕ Unit)) (Sum.elim (fun q => some q) (fun _ => some (0, false))))
theorem product_Find_le (N : Nat) (l : (List TProduct)) (name : ByteArray) : OLe (product_Find_c N l name) (product_Find_g l name) := by
 unfold product_Find_c product_Find_g
 repeat' (first | exact ole_rfl | exact product_Find_cs1_le _ _ _ _ | refine ole_bif ?_ ?_ | refine ole_bind ?_ (fun _ => ?_) | refine ole_let (fun _ => ?_) | refine ole_map ?_ | refine ole_elim (fun _ => ?_) (fun _ => ?_) | refine ole_loop (fun _ => ?_))

/-- sawmill/product.isSize -/
noncomputable def product_isSize_g (n : Int) : Bool :=
 (bif (decide (1 ≤ n)) then (decide (n ≤ 600)) else false)
theorem product_isSize_w (n : Int) (r : Bool) (h : product_isSize_g n = r) : Holds Try.prog 69 [(I n)] [] (B r) [] := by
 unfold product_isSize_g at h
 refine holds_fn Try.func69 rfl Try.ntmps69 rfl rfl rfl (fun lim => ?_)
 refine awp_seq (awp_go hmix (go_run' ttok 1 rfl (go_nil nd (then_norm (awp_seq (awp_go hmix (go_run' ttok 3 rfl ?_)))))))
 refine go_gcase rfl rfl rfl (fun g1 => ?_) (fun g1 => ?_)
 ·rw [g1]
  replace h := of_bif_t h g1
  refine go_run' ttok 4 rfl (go_nil nd (then_norm (awp_ret ?_)))
  have e2 := h
  subst e2
  refine ret_ret ?_
  refine fin0 ttok rfl rfl ?_
  exact (wkP_refl _ rfl)
 ·rw [g1]
  replace h := of_bif_f h g1
  refine go_run' ttok 4 rfl (go_nil nd (then_norm (awp_ret ?_)))
  have e3 := h
  subst e3
  refine ret_ret ?_
  refine fin0 ttok rfl rfl ?_
  exact (wkP_refl _ rfl)

/-- sawmill/product.grow -/
noncomputable def product_grow_g (vsize : Int) (allow : Int) : Int :=
 (W64 (Int.tdiv (W64 ((W64 (vsize * (W64 (1000 + allow)))) + 999)) 1000))
theorem product_grow_w (vsize : Int) (allow : Int) (r : Int) (h : product_grow_g vsize allow = r) : Holds Try.prog 70 [(I vsize), (I allow)] [] (I r) [] := by
 unfold product_grow_g at h
 refine holds_fn Try.func70 rfl Try.ntmps70 rfl rfl rfl (fun lim => ?_)
 refine awp_seq (awp_go hmix (go_run' ttok 1 rfl (go_nil nd (then_norm (awp_seq (awp_go hmix (go_run' ttok 7 rfl (go_nil nd (then_norm (awp_ret ?_))))))))))
 have e1 := h
 subst e1
 refine ret_ret ?_
 refine fin0 ttok rfl rfl ?_
 exact (wkP_refl _ rfl)

/-- sawmill/product.Green -/
noncomputable def product_Green_g (p : TProduct) : (Int × Int) :=
 (bif (!(product_isSize_g p.Thick)) then (0, 0) else (bif (!(product_isSize_g p.Width)) then (0, 0) else (bif (decide (p.Allow < 0)) then (0, 0) else (bif (decide (200 < p.Allow)) then (0, 0) else ((product_grow_g p.Thick p.Allow), (product_grow_g p.Width p.Allow))))))
theorem product_Green_w (p : TProduct) (r : (Int × Int)) (h : product_Green_g p = r) : Holds Try.prog 47 [(encTProduct p)] [] (.tup [(I r.1), (I r.2)]) [] := by
 unfold product_Green_g at h
 refine holds_fn Try.func47 rfl Try.ntmps47 rfl rfl rfl (fun lim => ?_)
 refine awp_seq (awp_go hmix (go_run' ttok 3 rfl (go_nil nd (then_norm (awp_seq (awp_seq (awp_go hmix (go_run' ttok 2 rfl ?_))))))))
 refine go_call fn69 (product_isSize_w p.Thick _ rfl) rfl rfl rfl rfl rfl rfl rfl ?_
 refine go_run' ttok 2 rfl ?_
 refine go_gcase rfl rfl rfl (fun g1 => ?_) (fun g1 => ?_)
 ·rw [g1]
  replace h := of_bif_t h g1
  refine go_run' ttok 15 rfl (go_nil nd (then_norm ?_))
  refine awp_cond rfl (fun tt0 => ?_) (fun h => by cases h)
  clear tt0
  refine awp_seq (awp_go hmix (go_run' ttok 2 rfl (go_nil nd (then_norm (awp_ret (then_ret ?_))))))
  have e2 := h
  subst e2
  refine ret_ret ?_
  refine fin0 ttok rfl rfl ?_
  exact wkP_refl _ rfl
 ·rw [g1]
  replace h := of_bif_f h g1
  refine go_run' ttok 2 rfl ?_
  refine go_call fn69 (product_isSize_w p.Width _ rfl) rfl rfl rfl rfl rfl rfl rfl ?_
  refine go_run' ttok 3 rfl ?_
  refine go_gcase rfl rfl rfl (fun g3 => ?_) (fun g3 => ?_)
  ·rw [g3]
   replace h := of_bif_t h g3
   refine go_run' ttok 9 rfl (go_nil nd (then_norm ?_))
   refine awp_cond rfl (fun tt0 => ?_) (fun h => by cases h)
   clear tt0
   refine awp_seq (awp_go hmix (go_run' ttok 2 rfl (go_nil nd (then_norm (awp_ret (then_ret ?_))))))
   have e4 := h
   subst e4
   refine ret_ret ?_
   refine fin0 ttok rfl rfl ?_
   exact wkP_refl _ rfl
  ·rw [g3]
   replace h := of_bif_f h g3
   refine go_run' ttok 5 rfl ?_
   refine go_gcase rfl rfl rfl (fun g5 => ?_) (fun g5 => ?_)
   ·rw [g5]
    replace h := of_bif_t h g5
    refine go_run' ttok 4 rfl (go_nil nd (then_norm ?_))
    refine awp_cond rfl (fun tt0 => ?_) (fun h => by cases h)
    clear tt0
    refine awp_seq (awp_go hmix (go_run' ttok 2 rfl (go_nil nd (then_norm (awp_ret (then_ret ?_))))))
    have e6 := h
    subst e6
    refine ret_ret ?_
    refine fin0 ttok rfl rfl ?_
    exact wkP_refl _ rfl
   ·rw [g5]
    replace h := of_bif_f h g5
    refine go_run' ttok 4 rfl (go_nil nd (then_norm ?_))
    refine awp_cond (b := (decide (200 < p.Allow))) rfl (fun c7 => ?_) (fun c7 => ?_)
    ·replace h := of_bif_t h c7
     refine awp_seq (awp_go hmix (go_run' ttok 2 rfl (go_nil nd (then_norm (awp_ret (then_ret ?_))))))
     have e8 := h
     subst e8
     refine ret_ret ?_
     refine fin0 ttok rfl rfl ?_
     exact wkP_refl _ rfl
    ·replace h := of_bif_f h c7
     refine awp_skip (then_norm (awp_seq (awp_go hmix (go_run' ttok 4 rfl ?_))))
     refine go_call fn70 (product_grow_w p.Thick p.Allow _ rfl) rfl rfl rfl rfl rfl rfl rfl ?_
     refine go_run' ttok 4 rfl ?_
     refine go_call fn70 (product_grow_w p.Width p.Allow _ rfl) rfl rfl rfl rfl rfl rfl rfl ?_
     refine go_run' ttok 2 rfl ?_
     refine go_nil (fun _ => by kernel_rfl) ?_
     refine then_norm (awp_ret ?_)
     have e9 := h
     subst e9
     refine ret_ret ?_
     refine fin0 ttok rfl rfl ?_
     exact wkP_refl _ rfl

end Go.Proofs.Ytcimnopodmnmmaa
