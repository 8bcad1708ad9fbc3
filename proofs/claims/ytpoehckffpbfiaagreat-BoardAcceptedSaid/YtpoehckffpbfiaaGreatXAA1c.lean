/- A1c: what functions of the program compute (written by mod.py). -/
import Derived.Test.YtpoehckffpbfiaaGreatXAA1b
import Derived.KernelRfl
namespace Go.Proofs.YtpoehckffpbfiaaGreat
open Go Go.Ab
set_option linter.unusedSimpArgs false
set_option linter.unusedVariables false
set_option linter.unusedSectionVars false
set_option maxRecDepth 20000
set_option maxHeartbeats 1000000
noncomputable def l30_sample_s1 (i : Int) (s3 : Int) (s4 : Int) (s5 : (List Sp)) : Option ((Int × Int × Int × (List Sp)) ⊕ (Int × Int × (List Sp))) :=
 (bif (decide (i < 20)) then (Option.bind (appO 16 s5 ([(⟨(-100), 100⟩ : Sp)])) (fun l => some (Sum.inl ((W64 (i + 1)), s3, s4, l)))) else some (Sum.inr (s3, s4, s5)))
noncomputable def l30_sample_g : Option Tsawmilllaw30_Log :=
 (Option.bind ((loopO (fun q => l30_sample_s1 q.1 q.2.1 q.2.2.1 q.2.2.2) (0, 3000, (-10), [])) : Option (Int × Int × (List Sp))) (fun w1 => some (⟨[(⟨w1.1, (⟨w1.2.1, w1.2.2⟩ : TSection)⟩ : TSlice)], []⟩ : Tsawmilllaw30_Log)))
theorem l30_sample_w (r : Tsawmilllaw30_Log) (h : l30_sample_g = some r) : Holds Tryz.prog 43 [] [] (encTsawmilllaw30_Log r) [] := by
 unfold l30_sample_g at h
 refine holds_fn Tryz.func43 rfl Tryz.ntmps43 rfl rfl rfl (fun lim => ?_)
 refine awp_seq (awp_go hmix (go_run' ttok 1 rfl (go_nil nd (then_norm (awp_seq (awp_go hmix (go_run' ttok 4 rfl (go_nil nd (then_norm ?_)))))))))
 obtain ⟨y, hx1, h⟩ := of_obind h
 refine awp_seqJ (X := (Int × Int × (List Sp))) [0, 1] [0] (fun w => []) (fun w => [(990, some ⟨23, 2, w.2.2.map encSp⟩), (1, some ⟨82, 3, [(.agg [(I w.1), (I w.2.1), (.arr 990 0 w.2.2.length)])]⟩)]) (fun w => w = y) rfl rfl ?_ ?_
 ·skip
  refine awp_seq (awp_go hmix (go_run' ttok 1 rfl (go_nil nd (then_norm (awp_block ?_)))))
  refine awp_loopD (X := (Int × Int × Int × (List Sp))) (Y := (Int × Int × (List Sp))) [0, 1] [0] (fun q => [(2, (I q.1))]) (fun q => [(990, some ⟨23, 2, q.2.2.2.map encSp⟩), (1, some ⟨82, 3, [(.agg [(I q.2.1), (I q.2.2.1), (.arr 990 0 q.2.2.2.length)])]⟩)]) (fun q => l30_sample_s1 q.1 q.2.1 q.2.2.1 q.2.2.2) (0, 3000, (-10), []) [(990, none), (1, some 1), (0, some 0)] hx1 ⟨rfl, rfl, rfl, rfl, rfl, ⟨wkP_id _ rfl, trivial⟩, ⟨rfl, ⟨_, rfl, rfl, rfl, .inr ⟨⟨⟨wkP_id _ rfl, wkP_id _ rfl, ⟨rfl, rfl, (by first | rfl | (simp [setI]; done) | omega | (dsimp only; omega) | (simp [setI]; omega))⟩, trivial⟩, trivial⟩, ⟨rfl, trivial⟩⟩⟩, trivial⟩⟩ (fun x vR vz hz3 hk4 => ?_)
  obtain ⟨i, s3, s4, s5⟩ := x
  change l30_sample_s1 i s3 s4 s5 = _ at hz3
  unfold l30_sample_s1 at hz3
  refine awp_seq (awp_seq (awp_go hmix (go_run' ttok 2 rfl (go_nil nd (then_norm ?_)))))
  refine awp_cond (b := (decide (i < 20))) rfl (fun c5 => ?_) (fun c5 => ?_)
  ·replace hz3 := of_bif_t hz3 c5
   refine awp_skip (then_norm (awp_seq (awp_block (awp_go hmix (go_run' ttok 5 rfl ?_)))))
   obtain ⟨l, hv6, hz3⟩ := of_obind hz3
   refine go_appT encSp s5 ([(⟨(-100), 100⟩ : Sp)]) l hv6 (fun _ => rfl) (by first | rfl | (simp [setI]; done) | omega | (dsimp only; omega) | (simp [setI]; omega)) (by first | rfl | (simp [setI]; done) | omega | (dsimp only; omega) | (simp [setI]; omega)) ttok rfl rfl rfl rfl rfl rfl rfl rfl rfl rfl rfl rfl rfl rfl rfl rfl rfl ?_
   refine go_run' ttok 3 rfl (go_nil nd (block_norm (then_norm (awp_go hmix (go_run' ttok 3 rfl (go_nil nd ?_))))))
   have e7 := of_some hz3
   subst e7
   refine then_norm ⟨rfl, ((W64 (i + 1)), s3, s4, l), [(990, some 14), (1, some 1), (0, some 0)], ⟨rfl, rfl, rfl, rfl, rfl, ⟨wkP_id _ rfl, trivial⟩, ⟨⟨_, rfl, rfl, rfl, wkX_map (enc := encSp) l (fun _ => rfl)⟩, ⟨_, rfl, rfl, rfl, .inr ⟨⟨⟨wkP_id _ rfl, wkP_id _ rfl, ⟨rfl, rfl, (by first | rfl | (simp [setI]; done) | omega | (dsimp only; omega) | (simp [setI]; omega))⟩, trivial⟩, trivial⟩, ⟨rfl, trivial⟩⟩⟩, trivial⟩⟩, hk4⟩
  ·replace hz3 := of_bif_f hz3 c5
   refine awp_exit (then_exit ?_)
   obtain ⟨t, hn8, hq⟩ := of_mapr' hz3
   subst hq
   have hq : t = _ := hk4
   subst hq
   refine then_exit (block_here ?_)
   have e9 := of_some hn8
   refine then_norm ⟨rfl, (s3, s4, s5), [(990, some 990), (1, some 1), (0, some 0)], ⟨rfl, rfl, rfl, rfl, rfl, trivial, ⟨⟨_, rfl, rfl, rfl, wkX_map (enc := encSp) s5 (fun _ => rfl)⟩, ⟨_, rfl, rfl, rfl, .inr ⟨⟨⟨wkP_id _ rfl, wkP_id _ rfl, ⟨rfl, rfl, (by first | rfl | (simp [setI]; done) | omega | (dsimp only; omega) | (simp [setI]; omega))⟩, trivial⟩, trivial⟩, ⟨rfl, trivial⟩⟩⟩, trivial⟩⟩, e9⟩
 ·intro w hw2
  subst hw2
  obtain ⟨s, s1, s2⟩ := w
  refine awp_seq ?_
  refine awp_freezeM [0, 1] [0] [(990, some ⟨23, 2, s2.map encSp⟩)] [(1, some 1), (0, some 0)] [] [(1, some ⟨82, 3, [(.agg [(I s), (I s1), (encL encSp s2)])]⟩)] rfl rfl rfl rfl rfl ⟨rfl, by decide, trivial⟩ trivial ⟨⟨_, rfl, rfl, rfl, .inr ⟨⟨⟨(wkP_id _ rfl), (wkP_id _ rfl), (wkP_lend rfl (by first | rfl | (simp [setI]; done) | omega | (dsimp only; omega) | (simp [setI]; omega)) (fun _ => rfl)), trivial⟩, trivial⟩, ⟨rfl, trivial⟩⟩⟩, trivial⟩ ?_
  refine awp_go hmix (go_run' ttok 4 rfl (go_nil nd (then_norm ?_)))
  refine awp_freezeM [0] [] [(18, some ⟨82, 3, ([(⟨s, (⟨s1, s2⟩ : TSection)⟩ : TSlice)]).map encTSlice⟩)] [(0, some 0)] [] [(0, some ⟨44, 2, [(.agg [(encL encTSlice ([(⟨s, (⟨s1, s2⟩ : TSection)⟩ : TSlice)])), .nilS])]⟩)] rfl rfl rfl rfl rfl ⟨rfl, by decide, trivial⟩ trivial ⟨⟨_, rfl, rfl, rfl, .inr ⟨⟨⟨(wkP_lend rfl (by first | rfl | (simp [setI]; done) | omega | (dsimp only; omega) | (simp [setI]; omega)) (fun _ => rfl)), (wkP_id _ rfl), trivial⟩, trivial⟩, ⟨rfl, trivial⟩⟩⟩, trivial⟩ ?_
  refine awp_ret ?_
  have e10 := of_some h
  subst e10
  refine ret_ret ?_
  refine fin0 ttok rfl rfl ?_
  exact ⟨(wkP_refl _ rfl), wkP_nilm, trivial⟩
noncomputable def l30_sample_cs1 (N : Nat) (i : Int) (s3 : Int) (s4 : Int) (s5 : (List Sp)) : Option ((Int × Int × Int × (List Sp)) ⊕ (Int × Int × (List Sp))) :=
 (bif (decide (i < 20)) then (Option.bind (appO 16 s5 ([(⟨(-100), 100⟩ : Sp)])) (fun l => some (Sum.inl ((W64 (i + 1)), s3, s4, l)))) else some (Sum.inr (s3, s4, s5)))
theorem l30_sample_cs1_le (N : Nat) (i : Int) (s3 : Int) (s4 : Int) (s5 : (List Sp)) : OLe (l30_sample_cs1 N i s3 s4 s5) (l30_sample_s1 i s3 s4 s5) := by
 unfold l30_sample_cs1 l30_sample_s1
 repeat' (first | exact ole_rfl | refine ole_bif ?_ ?_ | refine ole_bind ?_ (fun _ => ?_) | refine ole_let (fun _ => ?_) | refine ole_map ?_ | refine ole_elim (fun _ => ?_) (fun _ => ?_) | refine ole_loop (fun _ => ?_))
noncomputable def l30_sample_c (N : Nat) : Option Tsawmilllaw30_Log :=
 (Option.bind ((iterX N (fun q => l30_sample_cs1 N q.1 q.2.1 q.2.2.1 q.2.2.2) (0, 3000, (-10), [])) : Option (Int × Int × (List Sp))) (fun w1 => some (⟨[(⟨w1.1, (⟨w1.2.1, w1.2.2⟩ : TSection)⟩ : TSlice)], []⟩ : Tsawmilllaw30_Log)))
theorem l30_sample_le (N : Nat) : OLe (l30_sample_c N) (l30_sample_g) := by
 unfold l30_sample_c l30_sample_g
 repeat' (first | exact ole_rfl | exact l30_sample_cs1_le _ _ _ _ _ | refine ole_bif ?_ ?_ | refine ole_bind ?_ (fun _ => ?_) | refine ole_let (fun _ => ?_) | refine ole_map ?_ | refine ole_elim (fun _ => ?_) (fun _ => ?_) | refine ole_loop (fun _ => ?_))
noncomputable def section_inRange_g (s : Sp) : Bool :=
 (bif (decide ((-600) ≤ (min s.a s.b))) then (decide ((max s.a s.b) ≤ 600)) else false)
theorem section_inRange_w (s : Sp) (r : Bool) (h : section_inRange_g s = r) : Holds Tryz.prog 169 [(encSp s)] [] (B r) [] := by
 unfold section_inRange_g at h
 refine holds_fn Tryz.func169 rfl Tryz.ntmps169 rfl rfl rfl (fun lim => ?_)
 refine awp_seq (awp_go hmix (go_run' ttok 2 rfl (go_nil nd (then_norm (awp_seq (awp_go hmix (go_run' ttok 7 rfl ?_)))))))
 refine go_gcase rfl rfl rfl (fun g1 => ?_) (fun g1 => ?_)
 ·rw [g1]
  replace h := of_bif_t h g1
  refine go_run' ttok 8 rfl (go_nil nd (then_norm (awp_ret ?_)))
  have e2 := h
  subst e2
  refine ret_ret ?_
  refine fin0 ttok rfl rfl ?_
  exact (wkP_refl _ rfl)
 ·rw [g1]
  replace h := of_bif_f h g1
  refine go_run' ttok 8 rfl (go_nil nd (then_norm (awp_ret ?_)))
  have e3 := h
  subst e3
  refine ret_ret ?_
  refine fin0 ttok rfl rfl ?_
  exact (wkP_refl _ rfl)
noncomputable def section_isEmpty_g (s : Sp) : Bool :=
 (decide (s.b ≤ s.a))
theorem section_isEmpty_w (s : Sp) (r : Bool) (h : section_isEmpty_g s = r) : Holds Tryz.prog 170 [(encSp s)] [] (B r) [] := by
 unfold section_isEmpty_g at h
 refine holds_fn Tryz.func170 rfl Tryz.ntmps170 rfl rfl rfl (fun lim => ?_)
 refine awp_seq (awp_go hmix (go_run' ttok 2 rfl (go_nil nd (then_norm (awp_seq (awp_go hmix (go_run' ttok 6 rfl (go_nil nd (then_norm (awp_ret ?_))))))))))
 have e1 := h
 subst e1
 refine ret_ret ?_
 refine fin0 ttok rfl rfl ?_
 exact (wkP_refl _ rfl)
theorem eqT23_1 : eqB Tryz.prog shSp 23 = true := by kernel_rfl
theorem eqT23_2 : (Tryz.prog).eqGuardType (Tryz.prog).depth 23 = false := by kernel_rfl
noncomputable def section_Check_s1 (s : TSection) (vv : Int) : Option (Int ⊕ (Int ⊕ Unit)) :=
 (bif (decide (vv < ((s.Rows.length : Nat) : Int))) then (Option.bind (getI s.Rows vv) (fun e => (bif (!(section_inRange_g e)) then some (Sum.inr (Sum.inl 9)) else some (Sum.inl (W64 (vv + 1)))))) else some (Sum.inr (Sum.inr ())))
noncomputable def section_Check_s2 (s : TSection) (vv1 : Int) : Option (Int ⊕ (Int ⊕ Unit)) :=
 (bif (decide (vv1 < ((s.Rows.length : Nat) : Int))) then (Option.bind (getI s.Rows vv1) (fun e3 => (bif (section_isEmpty_g e3) then (bif (!(eqV encSp e3 (⟨0, 0⟩ : Sp))) then some (Sum.inr (Sum.inl 19)) else some (Sum.inl (W64 (vv1 + 1)))) else some (Sum.inl (W64 (vv1 + 1)))))) else some (Sum.inr (Sum.inr ())))
noncomputable def section_Check_g (s : TSection) : Option Int :=
 (bif (decide (120 < ((s.Rows.length : Nat) : Int))) then some 4 else (bif (decide (s.Low < (-60))) then some 9 else (bif (decide ((W64 (60 - ((s.Rows.length : Nat) : Int))) < s.Low)) then some 9 else (Option.bind ((loopO (fun q => section_Check_s1 s q) 0) : Option (Int ⊕ Unit)) (Sum.elim (fun q => some q) (fun _ => (bif (((s.Rows.length : Nat) : Int) == 0) then (bif (s.Low != 0) then some 19 else some 0) else (Option.bind (getI s.Rows 0) (fun e1 => (bif (section_isEmpty_g e1) then some 19 else (Option.bind (getI s.Rows (W64 (((s.Rows.length : Nat) : Int) - 1))) (fun e2 => (bif (section_isEmpty_g e2) then some 19 else (Option.bind ((loopO (fun q => section_Check_s2 s q) 0) : Option (Int ⊕ Unit)) (Sum.elim (fun q => some q) (fun _ => some 0))))))))))))))))
theorem section_Check_w (s : TSection) (r : Int) (h : section_Check_g s = some r) : Holds Tryz.prog 165 [(encTSection s)] [] (I r) [] := by
 unfold section_Check_g at h
 refine holds_fn Tryz.func165 rfl Tryz.ntmps165 rfl rfl rfl (fun lim => ?_)
 refine awp_seq (awp_go hmix (go_run' ttok 2 rfl (go_nil nd (then_norm (awp_seq (awp_go hmix (go_run' ttok 2 rfl ?_)))))))
 refine go_lenT encSp s.Rows ttok rfl rfl rfl rfl rfl rfl ?_
 refine go_run' ttok 1 rfl (go_nil nd (then_norm (awp_seq (awp_seq (awp_go hmix (go_run' ttok 2 rfl (go_nil nd (then_norm ?_))))))))
 refine awp_cond (b := (decide (120 < ((s.Rows.length : Nat) : Int)))) rfl (fun c1 => ?_) (fun c1 => ?_)
 ·replace h := of_bif_t h c1
  refine awp_seq (awp_go hmix (go_run' ttok 1 rfl (go_nil nd (then_norm (awp_ret (then_ret ?_))))))
  have e2 := of_some h
  subst e2
  refine ret_ret ?_
  refine fin0 ttok rfl rfl ?_
  exact (wkP_refl _ rfl)
 ·replace h := of_bif_f h c1
  refine awp_skip (then_norm (awp_seq (awp_seq (awp_go hmix (go_run' ttok 4 rfl ?_)))))
  refine go_gcase rfl rfl rfl (fun g3 => ?_) (fun g3 => ?_)
  ·rw [g3]
   replace h := of_bif_t h g3
   refine go_run' ttok 6 rfl (go_nil nd (then_norm ?_))
   refine awp_cond rfl (fun tt0 => ?_) (fun h => by cases h)
   clear tt0
   refine awp_seq (awp_go hmix (go_run' ttok 1 rfl (go_nil nd (then_norm (awp_ret (then_ret ?_))))))
   have e4 := of_some h
   subst e4
   refine ret_ret ?_
   refine fin0 ttok rfl rfl ?_
   exact (wkP_refl _ rfl)
  ·rw [g3]
   replace h := of_bif_f h g3
   refine go_run' ttok 6 rfl (go_nil nd (then_norm ?_))
   refine awp_cond (b := (decide ((W64 (60 - ((s.Rows.length : Nat) : Int))) < s.Low))) rfl (fun c5 => ?_) (fun c5 => ?_)
   ·replace h := of_bif_t h c5
    refine awp_seq (awp_go hmix (go_run' ttok 1 rfl (go_nil nd (then_norm (awp_ret (then_ret ?_))))))
    have e6 := of_some h
    subst e6
    refine ret_ret ?_
    refine fin0 ttok rfl rfl ?_
    exact (wkP_refl _ rfl)
   ·replace h := of_bif_f h c5
    refine awp_skip (then_norm ?_)
    obtain ⟨y, hx7, h⟩ := of_obind h
    refine awp_seqJ (X := Unit) [1, 3] [1] (fun _ => []) (fun _ => []) (fun w => Sum.inr w = y) rfl rfl ?_ ?_
    ·skip
     refine awp_seq (awp_go hmix (go_run' ttok 2 rfl ?_))
     refine go_lenT encSp s.Rows ttok rfl rfl rfl rfl rfl rfl ?_
     refine go_run' ttok 1 rfl (go_nil nd (then_norm (awp_block ?_)))
     refine awp_loopD (X := Int) (Y := (Int ⊕ Unit)) [1, 3, 24, 25] [1] (fun q => [(26, (I q))]) (fun q => []) (fun q => section_Check_s1 s q) 0 [(1, some 1)] hx7 ⟨rfl, rfl, rfl, rfl, rfl, ⟨wkP_id _ rfl, trivial⟩, trivial⟩ (fun vv vR vz hz9 hk10 => ?_)
     change section_Check_s1 s vv = _ at hz9
     unfold section_Check_s1 at hz9
     refine awp_seq (awp_go hmix (go_run' ttok 1 rfl (go_nil nd (then_norm (awp_seq ?_)))))
     refine awp_cond (b := (decide (vv < ((s.Rows.length : Nat) : Int)))) rfl (fun c11 => ?_) (fun c11 => ?_)
     ·replace hz9 := of_bif_t hz9 c11
      refine awp_skip (then_norm (awp_seq (awp_block (awp_seq (awp_go hmix ?_)))))
      obtain ⟨e, hv12, hz9⟩ := of_obind hz9
      refine go_indexT encSp s.Rows vv e hv12 ttok rfl rfl rfl rfl rfl rfl rfl rfl rfl ?_
      refine go_run' ttok 3 rfl (go_nil nd (then_norm (awp_seq (awp_go hmix (go_run' ttok 1 rfl ?_)))))
      refine go_call fn169 (section_inRange_w e _ rfl) rfl rfl rfl rfl rfl rfl rfl ?_
      refine go_run' ttok 1 rfl (go_nil nd (then_norm ?_))
      refine awp_cond (b := (!(section_inRange_g e))) rfl (fun c13 => ?_) (fun c13 => ?_)
      ·replace hz9 := of_bif_t hz9 c13
       refine awp_seq (awp_go hmix (go_run' ttok 1 rfl (go_nil nd (then_norm (awp_ret (block_ret (then_ret ?_)))))))
       obtain ⟨t, hn14, hq⟩ := of_mapr' hz9
       subst hq
       have hq : t = _ := hk10
       subst hq
       refine then_ret (block_ret ?_)
       obtain ⟨t1, hn15, hq⟩ := of_mapl' hn14
       subst hq
       have hq := of_inl h
       replace hq := of_some hq
       subst hq
       refine then_ret ?_
       have e16 := of_some hn15
       subst e16
       refine ret_ret ?_
       refine fin0 ttok rfl rfl ?_
       exact (wkP_refl _ rfl)
      ·replace hz9 := of_bif_f hz9 c13
       refine awp_skip (block_norm (then_norm (awp_go hmix (go_run' ttok 2 rfl (go_nil nd ?_)))))
       have e17 := of_some hz9
       subst e17
       refine then_norm ⟨rfl, (W64 (vv + 1)), [(1, some 1)], ⟨rfl, rfl, rfl, rfl, rfl, ⟨wkP_id _ rfl, trivial⟩, trivial⟩, hk10⟩
     ·replace hz9 := of_bif_f hz9 c11
      refine awp_exit (then_exit ?_)
      obtain ⟨t2, hn18, hq⟩ := of_mapr' hz9
      subst hq
      have hq : t2 = _ := hk10
      subst hq
      refine then_exit (block_here ?_)
      have e19 := of_some hn18
      refine then_norm ⟨rfl, (), [(1, some 1)], ⟨rfl, rfl, rfl, rfl, rfl, trivial, trivial⟩, e19⟩
    ·intro w hw8
     subst hw8
     replace h := of_inr h
     refine awp_seq (awp_seq (awp_go hmix (go_run' ttok 2 rfl (go_nil nd (then_norm ?_)))))
     refine awp_cond (b := (((s.Rows.length : Nat) : Int) == 0)) rfl (fun c20 => ?_) (fun c20 => ?_)
     ·replace h := of_bif_t h c20
      refine awp_seq (awp_seq (awp_go hmix (go_run' ttok 3 rfl (go_nil nd (then_norm ?_)))))
      refine awp_cond (b := (s.Low != 0)) rfl (fun c21 => ?_) (fun c21 => ?_)
      ·replace h := of_bif_t h c21
       refine awp_seq (awp_go hmix (go_run' ttok 1 rfl (go_nil nd (then_norm (awp_ret (then_ret (then_ret ?_)))))))
       have e22 := of_some h
       subst e22
       refine ret_ret ?_
       refine fin0 ttok rfl rfl ?_
       exact (wkP_refl _ rfl)
      ·replace h := of_bif_f h c21
       refine awp_skip (then_norm (awp_seq (awp_go hmix (go_run' ttok 1 rfl (go_nil nd (then_norm (awp_ret (then_ret ?_))))))))
       have e23 := of_some h
       subst e23
       refine ret_ret ?_
       refine fin0 ttok rfl rfl ?_
       exact (wkP_refl _ rfl)
     ·replace h := of_bif_f h c20
      refine awp_skip (then_norm (awp_seq (awp_seq (awp_go hmix (go_run' ttok 2 rfl ?_)))))
      obtain ⟨e1, hv24, h⟩ := of_obind h
      refine go_indexT encSp s.Rows 0 e1 hv24 ttok rfl rfl rfl rfl rfl rfl rfl rfl rfl ?_
      refine go_run' ttok 1 rfl ?_
      refine go_call fn170 (section_isEmpty_w e1 _ rfl) rfl rfl rfl rfl rfl rfl rfl ?_
      refine go_run' ttok 1 rfl ?_
      refine go_gcase rfl rfl rfl (fun g25 => ?_) (fun g25 => ?_)
      ·rw [g25]
       replace h := of_bif_t h g25
       refine go_run' ttok 8 rfl (go_nil nd (then_norm ?_))
       refine awp_cond rfl (fun tt0 => ?_) (fun h => by cases h)
       clear tt0
       refine awp_seq (awp_go hmix (go_run' ttok 1 rfl (go_nil nd (then_norm (awp_ret (then_ret ?_))))))
       have e26 := of_some h
       subst e26
       refine ret_ret ?_
       refine fin0 ttok rfl rfl ?_
       exact (wkP_refl _ rfl)
      ·rw [g25]
       replace h := of_bif_f h g25
       refine go_run' ttok 4 rfl ?_
       obtain ⟨e2, hv27, h⟩ := of_obind h
       refine go_indexT encSp s.Rows (W64 (((s.Rows.length : Nat) : Int) - 1)) e2 hv27 ttok rfl rfl rfl rfl rfl rfl rfl rfl rfl ?_
       refine go_run' ttok 1 rfl ?_
       refine go_call fn170 (section_isEmpty_w e2 _ rfl) rfl rfl rfl rfl rfl rfl rfl ?_
       refine go_run' ttok 1 rfl (go_nil nd (then_norm ?_))
       refine awp_cond (b := (section_isEmpty_g e2)) rfl (fun c28 => ?_) (fun c28 => ?_)
       ·replace h := of_bif_t h c28
        refine awp_seq (awp_go hmix (go_run' ttok 1 rfl (go_nil nd (then_norm (awp_ret (then_ret ?_))))))
        have e29 := of_some h
        subst e29
        refine ret_ret ?_
        refine fin0 ttok rfl rfl ?_
        exact (wkP_refl _ rfl)
       ·replace h := of_bif_f h c28
        refine awp_skip (then_norm ?_)
        obtain ⟨y1, hx30, h⟩ := of_obind h
        refine awp_seqJ (X := Unit) [] [] (fun _ => []) (fun _ => []) (fun w1 => Sum.inr w1 = y1) rfl rfl ?_ ?_
        ·skip
         refine awp_seq (awp_go hmix (go_run' ttok 2 rfl ?_))
         refine go_lenT encSp s.Rows ttok rfl rfl rfl rfl rfl rfl ?_
         refine go_run' ttok 1 rfl (go_nil nd (then_norm (awp_block ?_)))
         refine awp_loopD (X := Int) (Y := (Int ⊕ Unit)) [54, 55] [] (fun q => [(56, (I q))]) (fun q => []) (fun q => section_Check_s2 s q) 0 [] hx30 ⟨rfl, rfl, rfl, rfl, rfl, ⟨wkP_id _ rfl, trivial⟩, trivial⟩ (fun vv1 vR1 vz1 hz32 hk33 => ?_)
         change section_Check_s2 s vv1 = _ at hz32
         unfold section_Check_s2 at hz32
         refine awp_seq (awp_go hmix (go_run' ttok 1 rfl (go_nil nd (then_norm (awp_seq ?_)))))
         refine awp_cond (b := (decide (vv1 < ((s.Rows.length : Nat) : Int)))) rfl (fun c34 => ?_) (fun c34 => ?_)
         ·replace hz32 := of_bif_t hz32 c34
          refine awp_skip (then_norm (awp_seq (awp_block (awp_seq (awp_go hmix ?_)))))
          obtain ⟨e3, hv35, hz32⟩ := of_obind hz32
          refine go_indexT encSp s.Rows vv1 e3 hv35 ttok rfl rfl rfl rfl rfl rfl rfl rfl rfl ?_
          refine go_run' ttok 3 rfl (go_nil nd (then_norm (awp_seq (awp_go hmix (go_run' ttok 1 rfl ?_)))))
          refine go_call fn170 (section_isEmpty_w e3 _ rfl) rfl rfl rfl rfl rfl rfl rfl ?_
          refine go_run' ttok 1 rfl ?_
          refine go_gcase rfl rfl rfl (fun g36 => ?_) (fun g36 => ?_)
          ·rw [g36]
           replace hz32 := of_bif_t hz32 g36
           refine go_run' ttok 2 rfl ?_
           refine go_step rfl (as_neAgg shSp rfl eqT23_1 eqT23_2 (by decide) rfl rfl rfl rfl rfl) rfl rfl rfl ?_
           refine go_run' ttok 1 rfl (go_nil nd (then_norm ?_))
           refine awp_cond (b := (!(eqV encSp e3 (⟨0, 0⟩ : Sp)))) rfl (fun c37 => ?_) (fun c37 => ?_)
           ·replace hz32 := of_bif_t hz32 c37
            refine awp_seq (awp_go hmix (go_run' ttok 1 rfl (go_nil nd (then_norm (awp_ret (block_ret (then_ret ?_)))))))
            obtain ⟨t3, hn38, hq⟩ := of_mapr' hz32
            subst hq
            have hq : t3 = _ := hk33
            subst hq
            refine then_ret (block_ret ?_)
            obtain ⟨t4, hn39, hq⟩ := of_mapl' hn38
            subst hq
            have hq := of_inl h
            replace hq := of_some hq
            subst hq
            refine then_ret ?_
            have e40 := of_some hn39
            subst e40
            refine ret_ret ?_
            refine fin0 ttok rfl rfl ?_
            exact (wkP_refl _ rfl)
           ·replace hz32 := of_bif_f hz32 c37
            refine awp_skip (block_norm (then_norm (awp_go hmix (go_run' ttok 2 rfl (go_nil nd ?_)))))
            have e41 := of_some hz32
            subst e41
            refine then_norm ⟨rfl, (W64 (vv1 + 1)), [], ⟨rfl, rfl, rfl, rfl, rfl, ⟨wkP_id _ rfl, trivial⟩, trivial⟩, hk33⟩
          ·rw [g36]
           replace hz32 := of_bif_f hz32 g36
           refine go_run' ttok 4 rfl (go_nil nd (then_norm ?_))
           refine awp_cond rfl (fun h => by cases h) (fun tt0 => ?_)
           clear tt0
           refine awp_skip (block_norm (then_norm (awp_go hmix (go_run' ttok 2 rfl (go_nil nd ?_)))))
           have e42 := of_some hz32
           subst e42
           refine then_norm ⟨rfl, (W64 (vv1 + 1)), [], ⟨rfl, rfl, rfl, rfl, rfl, ⟨wkP_id _ rfl, trivial⟩, trivial⟩, hk33⟩
         ·replace hz32 := of_bif_f hz32 c34
          refine awp_exit (then_exit ?_)
          obtain ⟨t5, hn43, hq⟩ := of_mapr' hz32
          subst hq
          have hq : t5 = _ := hk33
          subst hq
          refine then_exit (block_here ?_)
          have e44 := of_some hn43
          refine then_norm ⟨rfl, (), [], ⟨rfl, rfl, rfl, rfl, rfl, trivial, trivial⟩, e44⟩
        ·intro w1 hw31
         subst hw31
         replace h := of_inr h
         refine awp_seq (awp_go hmix (go_run' ttok 1 rfl (go_nil nd (then_norm (awp_ret ?_)))))
         have e45 := of_some h
         subst e45
         refine ret_ret ?_
         refine fin0 ttok rfl rfl ?_
         exact (wkP_refl _ rfl)
noncomputable def section_Check_cs1 (N : Nat) (s : TSection) (vv : Int) : Option (Int ⊕ (Int ⊕ Unit)) :=
 (bif (decide (vv < ((s.Rows.length : Nat) : Int))) then (Option.bind (getI s.Rows vv) (fun e => (bif (!(section_inRange_g e)) then some (Sum.inr (Sum.inl 9)) else some (Sum.inl (W64 (vv + 1)))))) else some (Sum.inr (Sum.inr ())))
theorem section_Check_cs1_le (N : Nat) (s : TSection) (vv : Int) : OLe (section_Check_cs1 N s vv) (section_Check_s1 s vv) := by
 unfold section_Check_cs1 section_Check_s1
 repeat' (first | exact ole_rfl | refine ole_bif ?_ ?_ | refine ole_bind ?_ (fun _ => ?_) | refine ole_let (fun _ => ?_) | refine ole_map ?_ | refine ole_elim (fun _ => ?_) (fun _ => ?_) | refine ole_loop (fun _ => ?_))
noncomputable def section_Check_cs2 (N : Nat) (s : TSection) (vv1 : Int) : Option (Int ⊕ (Int ⊕ Unit)) :=
 (bif (decide (vv1 < ((s.Rows.length : Nat) : Int))) then (Option.bind (getI s.Rows vv1) (fun e3 => (bif (section_isEmpty_g e3) then (bif (!(eqV encSp e3 (⟨0, 0⟩ : Sp))) then some (Sum.inr (Sum.inl 19)) else some (Sum.inl (W64 (vv1 + 1)))) else some (Sum.inl (W64 (vv1 + 1)))))) else some (Sum.inr (Sum.inr ())))
theorem section_Check_cs2_le (N : Nat) (s : TSection) (vv1 : Int) : OLe (section_Check_cs2 N s vv1) (section_Check_s2 s vv1) := by
 unfold section_Check_cs2 section_Check_s2
 repeat' (first | exact ole_rfl | exact section_Check_cs1_le _ _ _ | refine ole_bif ?_ ?_ | refine ole_bind ?_ (fun _ => ?_) | refine ole_let (fun _ => ?_) | refine ole_map ?_ | refine ole_elim (fun _ => ?_) (fun _ => ?_) | refine ole_loop (fun _ => ?_))
noncomputable def section_Check_c (N : Nat) (s : TSection) : Option Int :=
 (bif (decide (120 < ((s.Rows.length : Nat) : Int))) then some 4 else (bif (decide (s.Low < (-60))) then some 9 else (bif (decide ((W64 (60 - ((s.Rows.length : Nat) : Int))) < s.Low)) then some 9 else (Option.bind ((iterX N (fun q => section_Check_cs1 N s q) 0) : Option (Int ⊕ Unit)) (Sum.elim (fun q => some q) (fun _ => (bif (((s.Rows.length : Nat) : Int) == 0) then (bif (s.Low != 0) then some 19 else some 0) else (Option.bind (getI s.Rows 0) (fun e1 => (bif (section_isEmpty_g e1) then some 19 else (Option.bind (getI s.Rows (W64 (((s.Rows.length : Nat) : Int) - 1))) (fun e2 => (bif (section_isEmpty_g e2) then some 19 else (Option.bind ((iterX N (fun q => section_Check_cs2 N s q) 0) : Option (Int ⊕ Unit)) (Sum.elim (fun q => some q) (fun _ => some 0))))))))))))))))
theorem section_Check_le (N : Nat) (s : TSection) : OLe (section_Check_c N s) (section_Check_g s) := by
 unfold section_Check_c section_Check_g
 repeat' (first | exact ole_rfl | exact section_Check_cs1_le _ _ _ | exact section_Check_cs2_le _ _ _ | refine ole_bif ?_ ?_ | refine ole_bind ?_ (fun _ => ?_) | refine ole_let (fun _ => ?_) | refine ole_map ?_ | refine ole_elim (fun _ => ?_) (fun _ => ?_) | refine ole_loop (fun _ => ?_))
noncomputable def solid_Check_s1 (l : (List TSlice)) (length : Int) (vv : Int) : Option ((Int × Int) ⊕ (Int ⊕ Unit)) :=
 (bif (decide (vv < ((l.length : Nat) : Int))) then (Option.bind (getI l vv) (fun e => (Option.bind (section_Check_g e.Sec) (fun cv => (bif (cv != 0) then some (Sum.inr (Sum.inl cv)) else (bif (((e.Sec.Rows.length : Nat) : Int) == 0) then some (Sum.inr (Sum.inl 18)) else (bif (decide (e.Len < 1)) then some (Sum.inr (Sum.inl 9)) else (bif (decide ((W64 (20000 - length)) < e.Len)) then some (Sum.inr (Sum.inl 9)) else some (Sum.inl ((W64 (length + e.Len)), (W64 (vv + 1)))))))))))) else some (Sum.inr (Sum.inr ())))
noncomputable def solid_Check_g (l : (List TSlice)) : Option Int :=
 (bif (((l.length : Nat) : Int) == 0) then some 3 else (bif (decide (24 < ((l.length : Nat) : Int))) then some 4 else (Option.bind ((loopO (fun q => solid_Check_s1 l q.1 q.2) (0, 0)) : Option (Int ⊕ Unit)) (Sum.elim (fun q => some q) (fun _ => some 0)))))
theorem solid_Check_w (l : (List TSlice)) (r : Int) (h : solid_Check_g l = some r) : Holds Tryz.prog 139 [((encL encTSlice) l)] [] (I r) [] := by
 unfold solid_Check_g at h
 refine holds_fn Tryz.func139 rfl Tryz.ntmps139 rfl rfl rfl (fun lim => ?_)
 refine awp_seq (awp_go hmix (go_run' ttok 1 rfl (go_nil nd (then_norm (awp_seq (awp_seq (awp_go hmix (go_run' ttok 1 rfl ?_))))))))
 refine go_lenT encTSlice l ttok rfl rfl rfl rfl rfl rfl ?_
 refine go_run' ttok 1 rfl (go_nil nd (then_norm ?_))
 refine awp_cond (b := (((l.length : Nat) : Int) == 0)) rfl (fun c1 => ?_) (fun c1 => ?_)
 ·replace h := of_bif_t h c1
  refine awp_seq (awp_go hmix (go_run' ttok 1 rfl (go_nil nd (then_norm (awp_ret (then_ret ?_))))))
  have e2 := of_some h
  subst e2
  refine ret_ret ?_
  refine fin0 ttok rfl rfl ?_
  exact (wkP_refl _ rfl)
 ·replace h := of_bif_f h c1
  refine awp_skip (then_norm (awp_seq (awp_seq (awp_go hmix (go_run' ttok 1 rfl ?_)))))
  refine go_lenT encTSlice l ttok rfl rfl rfl rfl rfl rfl ?_
  refine go_run' ttok 1 rfl (go_nil nd (then_norm ?_))
  refine awp_cond (b := (decide (24 < ((l.length : Nat) : Int)))) rfl (fun c3 => ?_) (fun c3 => ?_)
  ·replace h := of_bif_t h c3
   refine awp_seq (awp_go hmix (go_run' ttok 1 rfl (go_nil nd (then_norm (awp_ret (then_ret ?_))))))
   have e4 := of_some h
   subst e4
   refine ret_ret ?_
   refine fin0 ttok rfl rfl ?_
   exact (wkP_refl _ rfl)
  ·replace h := of_bif_f h c3
   refine awp_skip (then_norm (awp_seq (awp_go hmix (go_run' ttok 1 rfl (go_nil nd (then_norm ?_))))))
   obtain ⟨y, hx5, h⟩ := of_obind h
   refine awp_seqJ (X := Unit) [] [] (fun _ => []) (fun _ => []) (fun w => Sum.inr w = y) rfl rfl ?_ ?_
   ·skip
    refine awp_seq (awp_go hmix (go_run' ttok 1 rfl ?_))
    refine go_lenT encTSlice l ttok rfl rfl rfl rfl rfl rfl ?_
    refine go_run' ttok 1 rfl (go_nil nd (then_norm (awp_block ?_)))
    refine awp_loopD (X := (Int × Int)) (Y := (Int ⊕ Unit)) [13, 14] [] (fun q => [(3, (I q.1)), (15, (I q.2))]) (fun q => []) (fun q => solid_Check_s1 l q.1 q.2) (0, 0) [] hx5 ⟨rfl, rfl, rfl, rfl, rfl, ⟨wkP_id _ rfl, wkP_id _ rfl, trivial⟩, trivial⟩ (fun x vR vz hz7 hk8 => ?_)
    obtain ⟨length, vv⟩ := x
    change solid_Check_s1 l length vv = _ at hz7
    unfold solid_Check_s1 at hz7
    refine awp_seq (awp_go hmix (go_run' ttok 1 rfl (go_nil nd (then_norm (awp_seq ?_)))))
    refine awp_cond (b := (decide (vv < ((l.length : Nat) : Int)))) rfl (fun c9 => ?_) (fun c9 => ?_)
    ·replace hz7 := of_bif_t hz7 c9
     refine awp_skip (then_norm (awp_seq (awp_block (awp_seq (awp_go hmix ?_)))))
     obtain ⟨e, hv10, hz7⟩ := of_obind hz7
     refine go_indexT encTSlice l vv e hv10 ttok rfl rfl rfl rfl rfl rfl rfl rfl rfl ?_
     refine go_run' ttok 3 rfl (go_nil nd (then_norm (awp_seq (awp_seq (awp_go hmix (go_run' ttok 2 rfl ?_))))))
     obtain ⟨cv, hv11, hz7⟩ := of_obind hz7
     refine go_call fn165 (section_Check_w e.Sec cv hv11) rfl rfl rfl rfl rfl rfl rfl ?_
     refine go_run' ttok 1 rfl (go_nil nd (then_norm (awp_seq (awp_go hmix (go_run' ttok 2 rfl (go_nil nd (then_norm ?_)))))))
     refine awp_cond (b := (cv != 0)) rfl (fun c12 => ?_) (fun c12 => ?_)
     ·replace hz7 := of_bif_t hz7 c12
      refine awp_seq (awp_go hmix (go_run' ttok 2 rfl (go_nil nd (then_norm (awp_ret (then_ret (block_ret (then_ret ?_))))))))
      obtain ⟨t, hn13, hq⟩ := of_mapr' hz7
      subst hq
      have hq : t = _ := hk8
      subst hq
      refine then_ret (block_ret ?_)
      obtain ⟨t1, hn14, hq⟩ := of_mapl' hn13
      subst hq
      have hq := of_inl h
      replace hq := of_some hq
      subst hq
      refine then_ret ?_
      have e15 := of_some hn14
      subst e15
      refine ret_ret ?_
      refine fin0 ttok rfl rfl ?_
      exact (wkP_refl _ rfl)
     ·replace hz7 := of_bif_f hz7 c12
      refine awp_skip (then_norm (awp_seq (awp_seq (awp_go hmix (go_run' ttok 3 rfl ?_)))))
      refine go_lenT encSp e.Sec.Rows ttok rfl rfl rfl rfl rfl rfl ?_
      refine go_run' ttok 1 rfl (go_nil nd (then_norm ?_))
      refine awp_cond (b := (((e.Sec.Rows.length : Nat) : Int) == 0)) rfl (fun c16 => ?_) (fun c16 => ?_)
      ·replace hz7 := of_bif_t hz7 c16
       refine awp_seq (awp_go hmix (go_run' ttok 1 rfl (go_nil nd (then_norm (awp_ret (then_ret (block_ret (then_ret ?_))))))))
       obtain ⟨t2, hn17, hq⟩ := of_mapr' hz7
       subst hq
       have hq : t2 = _ := hk8
       subst hq
       refine then_ret (block_ret ?_)
       obtain ⟨t3, hn18, hq⟩ := of_mapl' hn17
       subst hq
       have hq := of_inl h
       replace hq := of_some hq
       subst hq
       refine then_ret ?_
       have e19 := of_some hn18
       subst e19
       refine ret_ret ?_
       refine fin0 ttok rfl rfl ?_
       exact (wkP_refl _ rfl)
      ·replace hz7 := of_bif_f hz7 c16
       refine awp_skip (then_norm (awp_seq (awp_seq (awp_go hmix (go_run' ttok 4 rfl ?_)))))
       refine go_gcase rfl rfl rfl (fun g20 => ?_) (fun g20 => ?_)
       ·rw [g20]
        replace hz7 := of_bif_t hz7 g20
        refine go_run' ttok 6 rfl (go_nil nd (then_norm ?_))
        refine awp_cond rfl (fun tt0 => ?_) (fun h => by cases h)
        clear tt0
        refine awp_seq (awp_go hmix (go_run' ttok 1 rfl (go_nil nd (then_norm (awp_ret (then_ret (block_ret (then_ret ?_))))))))
        obtain ⟨t4, hn21, hq⟩ := of_mapr' hz7
        subst hq
        have hq : t4 = _ := hk8
        subst hq
        refine then_ret (block_ret ?_)
        obtain ⟨t5, hn22, hq⟩ := of_mapl' hn21
        subst hq
        have hq := of_inl h
        replace hq := of_some hq
        subst hq
        refine then_ret ?_
        have e23 := of_some hn22
        subst e23
        refine ret_ret ?_
        refine fin0 ttok rfl rfl ?_
        exact (wkP_refl _ rfl)
       ·rw [g20]
        replace hz7 := of_bif_f hz7 g20
        refine go_run' ttok 6 rfl (go_nil nd (then_norm ?_))
        refine awp_cond (b := (decide ((W64 (20000 - length)) < e.Len))) rfl (fun c24 => ?_) (fun c24 => ?_)
        ·replace hz7 := of_bif_t hz7 c24
         refine awp_seq (awp_go hmix (go_run' ttok 1 rfl (go_nil nd (then_norm (awp_ret (then_ret (block_ret (then_ret ?_))))))))
         obtain ⟨t6, hn25, hq⟩ := of_mapr' hz7
         subst hq
         have hq : t6 = _ := hk8
         subst hq
         refine then_ret (block_ret ?_)
         obtain ⟨t7, hn26, hq⟩ := of_mapl' hn25
         subst hq
         have hq := of_inl h
         replace hq := of_some hq
         subst hq
         refine then_ret ?_
         have e27 := of_some hn26
         subst e27
         refine ret_ret ?_
         refine fin0 ttok rfl rfl ?_
         exact (wkP_refl _ rfl)
        ·replace hz7 := of_bif_f hz7 c24
         refine awp_skip (then_norm (awp_go hmix (go_run' ttok 5 rfl (go_nil nd (block_norm (then_norm (awp_go hmix (go_run' ttok 2 rfl (go_nil nd ?_)))))))))
         have e28 := of_some hz7
         subst e28
         refine then_norm ⟨rfl, ((W64 (length + e.Len)), (W64 (vv + 1))), [], ⟨rfl, rfl, rfl, rfl, rfl, ⟨wkP_id _ rfl, wkP_id _ rfl, trivial⟩, trivial⟩, hk8⟩
    ·replace hz7 := of_bif_f hz7 c9
     refine awp_exit (then_exit ?_)
     obtain ⟨t8, hn29, hq⟩ := of_mapr' hz7
     subst hq
     have hq : t8 = _ := hk8
     subst hq
     refine then_exit (block_here ?_)
     have e30 := of_some hn29
     refine then_norm ⟨rfl, (), [], ⟨rfl, rfl, rfl, rfl, rfl, trivial, trivial⟩, e30⟩
   ·intro w hw6
    subst hw6
    replace h := of_inr h
    refine awp_seq (awp_go hmix (go_run' ttok 1 rfl (go_nil nd (then_norm (awp_ret ?_)))))
    have e31 := of_some h
    subst e31
    refine ret_ret ?_
    refine fin0 ttok rfl rfl ?_
    exact (wkP_refl _ rfl)
noncomputable def solid_Check_cs1 (N : Nat) (l : (List TSlice)) (length : Int) (vv : Int) : Option ((Int × Int) ⊕ (Int ⊕ Unit)) :=
 (bif (decide (vv < ((l.length : Nat) : Int))) then (Option.bind (getI l vv) (fun e => (Option.bind ((section_Check_c N) e.Sec) (fun cv => (bif (cv != 0) then some (Sum.inr (Sum.inl cv)) else (bif (((e.Sec.Rows.length : Nat) : Int) == 0) then some (Sum.inr (Sum.inl 18)) else (bif (decide (e.Len < 1)) then some (Sum.inr (Sum.inl 9)) else (bif (decide ((W64 (20000 - length)) < e.Len)) then some (Sum.inr (Sum.inl 9)) else some (Sum.inl ((W64 (length + e.Len)), (W64 (vv + 1)))))))))))) else some (Sum.inr (Sum.inr ())))
theorem solid_Check_cs1_le (N : Nat) (l : (List TSlice)) (length : Int) (vv : Int) : OLe (solid_Check_cs1 N l length vv) (solid_Check_s1 l length vv) := by
 unfold solid_Check_cs1 solid_Check_s1
 repeat' (first | exact ole_rfl | exact section_Check_le _ _ | refine ole_bif ?_ ?_ | refine ole_bind ?_ (fun _ => ?_) | refine ole_let (fun _ => ?_) | refine ole_map ?_ | refine ole_elim (fun _ => ?_) (fun _ => ?_) | refine ole_loop (fun _ => ?_))
noncomputable def solid_Check_c (N : Nat) (l : (List TSlice)) : Option Int :=
 (bif (((l.length : Nat) : Int) == 0) then some 3 else (bif (decide (24 < ((l.length : Nat) : Int))) then some 4 else (Option.bind ((iterX N (fun q => solid_Check_cs1 N l q.1 q.2) (0, 0)) : Option (Int ⊕ Unit)) (Sum.elim (fun q => some q) (fun _ => some 0)))))
theorem solid_Check_le (N : Nat) (l : (List TSlice)) : OLe (solid_Check_c N l) (solid_Check_g l) := by
 unfold solid_Check_c solid_Check_g
 repeat' (first | exact ole_rfl | exact section_Check_le _ _ | exact solid_Check_cs1_le _ _ _ _ | refine ole_bif ?_ ?_ | refine ole_bind ?_ (fun _ => ?_) | refine ole_let (fun _ => ?_) | refine ole_map ?_ | refine ole_elim (fun _ => ?_) (fun _ => ?_) | refine ole_loop (fun _ => ?_))
noncomputable def solid_valid_g (l : (List TSlice)) : Option (List TSlice) :=
 (Option.bind (solid_Check_g l) (fun cv => (bif (cv != 0) then some ([]) else some l)))
theorem solid_valid_w (l : (List TSlice)) (r : (List TSlice)) (h : solid_valid_g l = some r) : Holds Tryz.prog 132 [((encL encTSlice) l)] [] ((encL encTSlice) r) [] := by
 unfold solid_valid_g at h
 refine holds_fn Tryz.func132 rfl Tryz.ntmps132 rfl rfl rfl (fun lim => ?_)
 refine awp_seq (awp_go hmix (go_run' ttok 1 rfl (go_nil nd (then_norm (awp_seq (awp_seq (awp_go hmix (go_run' ttok 1 rfl ?_))))))))
 obtain ⟨cv, hv1, h⟩ := of_obind h
 refine go_call fn139 (solid_Check_w l cv hv1) rfl rfl rfl rfl rfl rfl rfl ?_
 refine go_run' ttok 1 rfl (go_nil nd (then_norm ?_))
 refine awp_cond (b := (cv != 0)) rfl (fun c2 => ?_) (fun c2 => ?_)
 ·replace h := of_bif_t h c2
  refine awp_seq (awp_go hmix (go_run' ttok 1 rfl (go_nil nd (then_norm (awp_ret (then_ret ?_))))))
  have e3 := of_some h
  subst e3
  refine ret_ret ?_
  refine fin0 ttok rfl rfl ?_
  exact wkP_nilm
 ·replace h := of_bif_f h c2
  refine awp_skip (then_norm (awp_seq (awp_go hmix (go_run' ttok 2 rfl (go_nil nd (then_norm (awp_ret ?_)))))))
  have e4 := of_some h
  subst e4
  refine ret_ret ?_
  refine fin0 ttok rfl rfl ?_
  exact (wkP_refl _ rfl)
noncomputable def solid_valid_c (N : Nat) (l : (List TSlice)) : Option (List TSlice) :=
 (Option.bind ((solid_Check_c N) l) (fun cv => (bif (cv != 0) then some ([]) else some l)))
theorem solid_valid_le (N : Nat) (l : (List TSlice)) : OLe (solid_valid_c N l) (solid_valid_g l) := by
 unfold solid_valid_c solid_valid_g
 repeat' (first | exact ole_rfl | exact solid_Check_le _ _ | refine ole_bif ?_ ?_ | refine ole_bind ?_ (fun _ => ?_) | refine ole_let (fun _ => ?_) | refine ole_map ?_ | refine ole_elim (fun _ => ?_) (fun _ => ?_) | refine ole_loop (fun _ => ?_))
noncomputable def solid_extents_s1 (l : (List TSlice)) (vz : Int) (vv : Int) (spans1 : (List Sp)) : Option ((Int × Int × (List Sp)) ⊕ (List Sp)) :=
 (bif (decide (vv < ((l.length : Nat) : Int))) then (Option.bind (getI l vv) (fun e => (Option.bind (getI spans1 vv) (fun e1 => some (Sum.inl ((W64 (vz + e.Len)), (W64 (vv + 1)), (setI spans1 vv (⟨vz, (W64 (vz + e.Len))⟩ : Sp)))))))) else some (Sum.inr spans1))
noncomputable def solid_extents_g (l : (List TSlice)) : Option (List Sp) :=
 (Option.bind (mkO 16 (⟨0, 0⟩ : Sp) ((l.length : Nat) : Int)) (fun m => (Option.bind ((loopO (fun q => solid_extents_s1 l q.1 q.2.1 q.2.2) (0, 0, m)) : Option (List Sp)) (fun spans => some spans))))
theorem solid_extents_w (l : (List TSlice)) (r : (List Sp)) (h : solid_extents_g l = some r) : Holds Tryz.prog 133 [((encL encTSlice) l)] [] ((encL encSp) r) [] := by
 unfold solid_extents_g at h
 refine holds_fn Tryz.func133 rfl Tryz.ntmps133 rfl rfl rfl (fun lim => ?_)
 refine awp_seq (awp_go hmix (go_run' ttok 1 rfl (go_nil nd (then_norm (awp_seq (awp_go hmix (go_run' ttok 1 rfl ?_)))))))
 refine go_lenT encTSlice l ttok rfl rfl rfl rfl rfl rfl ?_
 obtain ⟨m, hv1, h⟩ := of_obind h
 refine go_makeT encSp (⟨0, 0⟩ : Sp) ((l.length : Nat) : Int) m hv1 ttok rfl rfl rfl rfl rfl rfl rfl rfl rfl rfl rfl rfl rfl ?_
 refine go_run' ttok 1 rfl (go_nil nd (then_norm (awp_seq (awp_go hmix (go_run' ttok 1 rfl (go_nil nd (then_norm ?_)))))))
 obtain ⟨y, hx2, h⟩ := of_obind h
 refine awp_seqJ (X := (List Sp)) [] [] (fun w => [(3, (.arr 9 0 w.length))]) (fun w => [(9, some ⟨23, 2, w.map encSp⟩)]) (fun w => w = y) rfl rfl ?_ ?_
 ·skip
  refine awp_seq (awp_go hmix (go_run' ttok 1 rfl ?_))
  refine go_lenT encTSlice l ttok rfl rfl rfl rfl rfl rfl ?_
  refine go_run' ttok 1 rfl (go_nil nd (then_norm (awp_block ?_)))
  refine awp_loopD (X := (Int × Int × (List Sp))) (Y := (List Sp)) [10, 11] [] (fun q => [(4, (I q.1)), (12, (I q.2.1)), (3, (.arr 9 0 q.2.2.length))]) (fun q => [(9, some ⟨23, 2, q.2.2.map encSp⟩)]) (fun q => solid_extents_s1 l q.1 q.2.1 q.2.2) (0, 0, m) [(9, some 9)] hx2 ⟨rfl, rfl, rfl, rfl, rfl, ⟨wkP_id _ rfl, wkP_id _ rfl, ⟨rfl, rfl, (by first | rfl | (simp [setI]; done) | omega | (dsimp only; omega) | (simp [setI]; omega))⟩, trivial⟩, ⟨⟨_, rfl, rfl, rfl, wkX_map (enc := encSp) m (fun _ => rfl)⟩, trivial⟩⟩ (fun x vR vz1 hz4 hk5 => ?_)
  obtain ⟨vz, vv, spans1⟩ := x
  change solid_extents_s1 l vz vv spans1 = _ at hz4
  unfold solid_extents_s1 at hz4
  refine awp_seq (awp_go hmix (go_run' ttok 1 rfl (go_nil nd (then_norm (awp_seq ?_)))))
  refine awp_cond (b := (decide (vv < ((l.length : Nat) : Int)))) rfl (fun c6 => ?_) (fun c6 => ?_)
  ·replace hz4 := of_bif_t hz4 c6
   refine awp_skip (then_norm (awp_seq (awp_block (awp_seq (awp_go hmix (go_run' ttok 1 rfl ?_))))))
   obtain ⟨e, hv7, hz4⟩ := of_obind hz4
   refine go_indexT encTSlice l vv e hv7 ttok rfl rfl rfl rfl rfl rfl rfl rfl rfl ?_
   refine go_run' ttok 4 rfl (go_nil nd (then_norm (awp_seq (awp_go hmix (go_run' ttok 8 rfl ?_)))))
   obtain ⟨e1, hv8, hz4⟩ := of_obind hz4
   refine go_indexAT encSp spans1 vv e1 hv8 (by first | rfl | (simp [setI]; done) | omega | (dsimp only; omega) | (simp [setI]; omega)) ttok rfl rfl rfl rfl rfl rfl rfl rfl rfl rfl ?_
   refine go_storeT encSp spans1 vv e1 (⟨vz, (W64 (vz + e.Len))⟩ : Sp) hv8 ttok rfl rfl rfl rfl rfl rfl rfl rfl rfl rfl rfl rfl ?_
   refine go_nil nd (then_norm (awp_go hmix (go_run' ttok 5 rfl (go_nil nd (block_norm (then_norm (awp_go hmix (go_run' ttok 2 rfl (go_nil nd ?_)))))))))
   have e9 := of_some hz4
   subst e9
   refine then_norm ⟨rfl, ((W64 (vz + e.Len)), (W64 (vv + 1)), (setI spans1 vv (⟨vz, (W64 (vz + e.Len))⟩ : Sp))), [(9, some 9)], ⟨rfl, rfl, rfl, rfl, rfl, ⟨wkP_id _ rfl, wkP_id _ rfl, ⟨rfl, rfl, (by first | rfl | (simp [setI]; done) | omega | (dsimp only; omega) | (simp [setI]; omega))⟩, trivial⟩, ⟨⟨_, rfl, rfl, rfl, wkX_map (enc := encSp) (setI spans1 vv (⟨vz, (W64 (vz + e.Len))⟩ : Sp)) (fun _ => rfl)⟩, trivial⟩⟩, hk5⟩
  ·replace hz4 := of_bif_f hz4 c6
   refine awp_exit (then_exit ?_)
   obtain ⟨t, hn10, hq⟩ := of_mapr' hz4
   subst hq
   have hq : t = _ := hk5
   subst hq
   refine then_exit (block_here ?_)
   have e11 := of_some hn10
   refine then_norm ⟨rfl, spans1, [(9, some 9)], ⟨rfl, rfl, rfl, rfl, rfl, ⟨⟨rfl, rfl, (by first | rfl | (simp [setI]; done) | omega | (dsimp only; omega) | (simp [setI]; omega))⟩, trivial⟩, ⟨⟨_, rfl, rfl, rfl, wkX_map (enc := encSp) spans1 (fun _ => rfl)⟩, trivial⟩⟩, e11⟩
 ·intro spans hw3
  subst hw3
  refine awp_seq (awp_go hmix (go_run' ttok 2 rfl (go_nil nd (then_norm ?_))))
  refine awp_freezeM [] [] [(9, some ⟨23, 2, spans.map encSp⟩)] [] [(2, (encL encSp spans))] [] rfl rfl rfl rfl rfl ⟨rfl, by decide, trivial⟩ ⟨(wkP_lend rfl (by first | rfl | (simp [setI]; done) | omega | (dsimp only; omega) | (simp [setI]; omega)) (fun _ => rfl)), trivial⟩ trivial ?_
  refine awp_ret ?_
  have e12 := of_some h
  subst e12
  refine ret_ret ?_
  refine fin0 ttok rfl rfl ?_
  exact (wkP_refl _ rfl)
noncomputable def solid_extents_cs1 (N : Nat) (l : (List TSlice)) (vz : Int) (vv : Int) (spans1 : (List Sp)) : Option ((Int × Int × (List Sp)) ⊕ (List Sp)) :=
 (bif (decide (vv < ((l.length : Nat) : Int))) then (Option.bind (getI l vv) (fun e => (Option.bind (getI spans1 vv) (fun e1 => some (Sum.inl ((W64 (vz + e.Len)), (W64 (vv + 1)), (setI spans1 vv (⟨vz, (W64 (vz + e.Len))⟩ : Sp)))))))) else some (Sum.inr spans1))
theorem solid_extents_cs1_le (N : Nat) (l : (List TSlice)) (vz : Int) (vv : Int) (spans1 : (List Sp)) : OLe (solid_extents_cs1 N l vz vv spans1) (solid_extents_s1 l vz vv spans1) := by
 unfold solid_extents_cs1 solid_extents_s1
 repeat' (first | exact ole_rfl | refine ole_bif ?_ ?_ | refine ole_bind ?_ (fun _ => ?_) | refine ole_let (fun _ => ?_) | refine ole_map ?_ | refine ole_elim (fun _ => ?_) (fun _ => ?_) | refine ole_loop (fun _ => ?_))
noncomputable def solid_extents_c (N : Nat) (l : (List TSlice)) : Option (List Sp) :=
 (Option.bind (mkO 16 (⟨0, 0⟩ : Sp) ((l.length : Nat) : Int)) (fun m => (Option.bind ((iterX N (fun q => solid_extents_cs1 N l q.1 q.2.1 q.2.2) (0, 0, m)) : Option (List Sp)) (fun spans => some spans))))
theorem solid_extents_le (N : Nat) (l : (List TSlice)) : OLe (solid_extents_c N l) (solid_extents_g l) := by
 unfold solid_extents_c solid_extents_g
 repeat' (first | exact ole_rfl | exact solid_extents_cs1_le _ _ _ _ _ | refine ole_bif ?_ ?_ | refine ole_bind ?_ (fun _ => ?_) | refine ole_let (fun _ => ?_) | refine ole_map ?_ | refine ole_elim (fun _ => ?_) (fun _ => ?_) | refine ole_loop (fun _ => ?_))
noncomputable def span_Meet_g (a : Sp) (b : Sp) : Sp :=
 (bif (decide ((min a.b b.b) ≤ (max a.a b.a))) then (⟨0, 0⟩ : Sp) else (⟨(max a.a b.a), (min a.b b.b)⟩ : Sp))
theorem span_Meet_w (a : Sp) (b : Sp) (r : Sp) (h : span_Meet_g a b = r) : Holds Tryz.prog 135 [(encSp a), (encSp b)] [] (encSp r) [] := by
 unfold span_Meet_g at h
 refine holds_fn Tryz.func135 rfl Tryz.ntmps135 rfl rfl rfl (fun lim => ?_)
 refine awp_seq (awp_go hmix (go_run' ttok 3 rfl (go_nil nd (then_norm (awp_seq (awp_go hmix (go_run' ttok 13 rfl (go_nil nd (then_norm (awp_seq (awp_seq (awp_go hmix (go_run' ttok 5 rfl (go_nil nd (then_norm ?_)))))))))))))))
 refine awp_cond (b := (decide ((min a.b b.b) ≤ (max a.a b.a)))) rfl (fun c1 => ?_) (fun c1 => ?_)
 ·replace h := of_bif_t h c1
  refine awp_seq (awp_go hmix (go_run' ttok 2 rfl (go_nil nd (then_norm (awp_ret (then_ret ?_))))))
  have e2 := h
  subst e2
  refine ret_ret ?_
  refine fin0 ttok rfl rfl ?_
  exact (wkP_refl _ rfl)
 ·replace h := of_bif_f h c1
  refine awp_skip (then_norm (awp_seq (awp_go hmix (go_run' ttok 2 rfl (go_nil nd (then_norm (awp_ret ?_)))))))
  have e3 := h
  subst e3
  refine ret_ret ?_
  refine fin0 ttok rfl rfl ?_
  exact (wkP_refl _ rfl)
noncomputable def span_size_g (s : Sp) : Int :=
 (bif (decide (s.b ≤ s.a)) then 0 else (WU64 ((WU64 s.b) - (WU64 s.a))))
theorem span_size_w (s : Sp) (r : Int) (h : span_size_g s = r) : Holds Tryz.prog 162 [(encSp s)] [] (U64 r) [] := by
 unfold span_size_g at h
 refine holds_fn Tryz.func162 rfl Tryz.ntmps162 rfl rfl rfl (fun lim => ?_)
 refine awp_seq (awp_go hmix (go_run' ttok 2 rfl (go_nil nd (then_norm (awp_seq (awp_seq (awp_go hmix (go_run' ttok 5 rfl (go_nil nd (then_norm ?_))))))))))
 refine awp_cond (b := (decide (s.b ≤ s.a))) rfl (fun c1 => ?_) (fun c1 => ?_)
 ·replace h := of_bif_t h c1
  refine awp_seq (awp_go hmix (go_run' ttok 1 rfl (go_nil nd (then_norm (awp_ret (then_ret ?_))))))
  have e2 := h
  subst e2
  refine ret_ret ?_
  refine fin0 ttok rfl rfl ?_
  exact (wkP_refl _ rfl)
 ·replace h := of_bif_f h c1
  refine awp_skip (then_norm (awp_seq (awp_go hmix (go_run' ttok 8 rfl (go_nil nd (then_norm (awp_ret ?_)))))))
  have e3 := h
  subst e3
  refine ret_ret ?_
  refine fin0 ttok rfl rfl ?_
  exact (wkP_refl _ rfl)
noncomputable def span_limited_g (n : Int) : Int :=
 (W64 (min n 9223372036854775807))
theorem span_limited_w (n : Int) (r : Int) (h : span_limited_g n = r) : Holds Tryz.prog 161 [(U64 n)] [] (I r) [] := by
 unfold span_limited_g at h
 refine holds_fn Tryz.func161 rfl Tryz.ntmps161 rfl rfl rfl (fun lim => ?_)
 refine awp_seq (awp_go hmix (go_run' ttok 1 rfl (go_nil nd (then_norm (awp_seq (awp_go hmix (go_run' ttok 4 rfl (go_nil nd (then_norm (awp_ret ?_))))))))))
 have e1 := h
 subst e1
 refine ret_ret ?_
 refine fin0 ttok rfl rfl ?_
 exact (wkP_refl _ rfl)
noncomputable def span_Len_g (s : Sp) : Int :=
 (span_limited_g (span_size_g s))
theorem span_Len_w (s : Sp) (r : Int) (h : span_Len_g s = r) : Holds Tryz.prog 134 [(encSp s)] [] (I r) [] := by
 unfold span_Len_g at h
 refine holds_fn Tryz.func134 rfl Tryz.ntmps134 rfl rfl rfl (fun lim => ?_)
 refine awp_seq (awp_go hmix (go_run' ttok 2 rfl (go_nil nd (then_norm (awp_seq (awp_go hmix (go_run' ttok 1 rfl ?_)))))))
 refine go_call fn162 (span_size_w s _ rfl) rfl rfl rfl rfl rfl rfl rfl ?_
 refine go_call fn161 (span_limited_w (span_size_g s) _ rfl) rfl rfl rfl rfl rfl rfl rfl ?_
 refine go_run' ttok 1 rfl (go_nil nd (then_norm (awp_ret ?_)))
 have e1 := h
 subst e1
 refine ret_ret ?_
 refine fin0 ttok rfl rfl ?_
 exact (wkP_refl _ rfl)
noncomputable def section_valid_g (s : TSection) : Option TSection :=
 (Option.bind (section_Check_g s) (fun cv => (bif (cv != 0) then some (⟨0, []⟩ : TSection) else some s)))
theorem section_valid_w (s : TSection) (r : TSection) (h : section_valid_g s = some r) : Holds Tryz.prog 163 [(encTSection s)] [] (encTSection r) [] := by
 unfold section_valid_g at h
 refine holds_fn Tryz.func163 rfl Tryz.ntmps163 rfl rfl rfl (fun lim => ?_)
 refine awp_seq (awp_go hmix (go_run' ttok 2 rfl (go_nil nd (then_norm (awp_seq (awp_seq (awp_go hmix (go_run' ttok 1 rfl ?_))))))))
 obtain ⟨cv, hv1, h⟩ := of_obind h
 refine go_call fn165 (section_Check_w s cv hv1) rfl rfl rfl rfl rfl rfl rfl ?_
 refine go_run' ttok 1 rfl (go_nil nd (then_norm ?_))
 refine awp_cond (b := (cv != 0)) rfl (fun c2 => ?_) (fun c2 => ?_)
 ·replace h := of_bif_t h c2
  refine awp_seq (awp_go hmix (go_run' ttok 2 rfl (go_nil nd (then_norm (awp_ret (then_ret ?_))))))
  have e3 := of_some h
  subst e3
  refine ret_ret ?_
  refine fin0 ttok rfl rfl ?_
  exact ⟨(wkP_refl _ rfl), wkP_nilm, trivial⟩
 ·replace h := of_bif_f h c2
  refine awp_skip (then_norm (awp_seq (awp_go hmix (go_run' ttok 2 rfl (go_nil nd (then_norm (awp_ret ?_)))))))
  have e4 := of_some h
  subst e4
  refine ret_ret ?_
  refine fin0 ttok rfl rfl ?_
  exact (wkP_refl _ rfl)
noncomputable def section_valid_c (N : Nat) (s : TSection) : Option TSection :=
 (Option.bind ((section_Check_c N) s) (fun cv => (bif (cv != 0) then some (⟨0, []⟩ : TSection) else some s)))
theorem section_valid_le (N : Nat) (s : TSection) : OLe (section_valid_c N s) (section_valid_g s) := by
 unfold section_valid_c section_valid_g
 repeat' (first | exact ole_rfl | exact section_Check_le _ _ | refine ole_bif ?_ ?_ | refine ole_bind ?_ (fun _ => ?_) | refine ole_let (fun _ => ?_) | refine ole_map ?_ | refine ole_elim (fun _ => ?_) (fun _ => ?_) | refine ole_loop (fun _ => ?_))
noncomputable def section_heights_g (vfrom : Int) (vuntil : Int) : Sp :=
 (⟨(W64 (10 * vfrom)), (W64 (10 * vuntil))⟩ : Sp)
theorem section_heights_w (vfrom : Int) (vuntil : Int) (r : Sp) (h : section_heights_g vfrom vuntil = r) : Holds Tryz.prog 164 [(I vfrom), (I vuntil)] [] (encSp r) [] := by
 unfold section_heights_g at h
 refine holds_fn Tryz.func164 rfl Tryz.ntmps164 rfl rfl rfl (fun lim => ?_)
 refine awp_seq (awp_go hmix (go_run' ttok 1 rfl (go_nil nd (then_norm (awp_seq (awp_go hmix (go_run' ttok 6 rfl (go_nil nd (then_norm (awp_ret ?_))))))))))
 have e1 := h
 subst e1
 refine ret_ret ?_
 refine fin0 ttok rfl rfl ?_
 exact (wkP_refl _ rfl)
noncomputable def section_Within_s1 (vr : TRect) (vv : TSection) (vsum1 : Int) (vv1 : Int) : Option ((Int × Int) ⊕ Int) :=
 (bif (decide (vv1 < ((vv.Rows.length : Nat) : Int))) then (Option.bind (getI vv.Rows vv1) (fun e => (letB (section_heights_g (W64 (vv.Low + vv1)) (W64 ((W64 (vv.Low + vv1)) + 1))) (fun hv => (letB (span_Meet_g e vr.X) (fun mv => (letB (span_Meet_g hv vr.Y) (fun mv1 => some (Sum.inl ((W64 (vsum1 + (W64 ((span_Len_g mv) * (span_Len_g mv1))))), (W64 (vv1 + 1)))))))))))) else some (Sum.inr vsum1))
noncomputable def section_Within_g (s : TSection) (vr : TRect) : Option Int :=
 (Option.bind (section_valid_g s) (fun vv => (Option.bind ((loopO (fun q => section_Within_s1 vr vv q.1 q.2) (0, 0)) : Option Int) (fun vsum => some vsum))))
theorem section_Within_w (s : TSection) (vr : TRect) (r : Int) (h : section_Within_g s vr = some r) : Holds Tryz.prog 136 [(encTSection s), (encTRect vr)] [] (I r) [] := by
 unfold section_Within_g at h
 refine holds_fn Tryz.func136 rfl Tryz.ntmps136 rfl rfl rfl (fun lim => ?_)
 refine awp_seq (awp_go hmix (go_run' ttok 3 rfl (go_nil nd (then_norm (awp_seq (awp_go hmix (go_run' ttok 1 rfl ?_)))))))
 obtain ⟨vv, hv1, h⟩ := of_obind h
 refine go_call fn163 (section_valid_w s vv hv1) rfl rfl rfl rfl rfl rfl rfl ?_
 refine go_run' ttok 1 rfl (go_nil nd (then_norm (awp_seq (awp_go hmix (go_run' ttok 1 rfl (go_nil nd (then_norm ?_)))))))
 obtain ⟨y, hx2, h⟩ := of_obind h
 refine awp_seqJ (X := Int) [] [] (fun w => [(5, (I w))]) (fun w => []) (fun w => w = y) rfl rfl ?_ ?_
 ·skip
  refine awp_seq (awp_go hmix (go_run' ttok 2 rfl ?_))
  refine go_lenT encSp vv.Rows ttok rfl rfl rfl rfl rfl rfl ?_
  refine go_run' ttok 1 rfl (go_nil nd (then_norm (awp_block ?_)))
  refine awp_loopD (X := (Int × Int)) (Y := Int) [2, 3, 12, 13] [2, 3] (fun q => [(5, (I q.1)), (14, (I q.2))]) (fun q => []) (fun q => section_Within_s1 vr vv q.1 q.2) (0, 0) [(2, some 2), (3, some 3)] hx2 ⟨rfl, rfl, rfl, rfl, rfl, ⟨wkP_id _ rfl, wkP_id _ rfl, trivial⟩, trivial⟩ (fun x vR vz hz4 hk5 => ?_)
  obtain ⟨vsum1, vv1⟩ := x
  change section_Within_s1 vr vv vsum1 vv1 = _ at hz4
  unfold section_Within_s1 at hz4
  refine awp_seq (awp_go hmix (go_run' ttok 1 rfl (go_nil nd (then_norm (awp_seq ?_)))))
  refine awp_cond (b := (decide (vv1 < ((vv.Rows.length : Nat) : Int)))) rfl (fun c6 => ?_) (fun c6 => ?_)
  ·replace hz4 := of_bif_t hz4 c6
   refine awp_skip (then_norm (awp_seq (awp_block (awp_seq (awp_go hmix (go_run' ttok 1 rfl ?_))))))
   obtain ⟨e, hv7, hz4⟩ := of_obind hz4
   refine go_indexT encSp vv.Rows vv1 e hv7 ttok rfl rfl rfl rfl rfl rfl rfl rfl rfl ?_
   refine go_run' ttok 4 rfl (go_nil nd (then_norm (awp_seq (awp_go hmix (go_run' ttok 9 rfl ?_)))))
   obtain ⟨hv, hv8, hz4⟩ := of_let hz4
   refine go_call fn164 (section_heights_w (W64 (vv.Low + vv1)) (W64 ((W64 (vv.Low + vv1)) + 1)) hv hv8) rfl rfl rfl rfl rfl rfl rfl ?_
   refine go_run' ttok 2 rfl (go_nil nd (then_norm (awp_go hmix (go_run' ttok 4 rfl ?_))))
   obtain ⟨mv, hv9, hz4⟩ := of_let hz4
   refine go_call fn135 (span_Meet_w e vr.X mv hv9) rfl rfl rfl rfl rfl rfl rfl ?_
   refine go_call fn134 (span_Len_w mv _ rfl) rfl rfl rfl rfl rfl rfl rfl ?_
   refine go_run' ttok 3 rfl ?_
   obtain ⟨mv1, hv10, hz4⟩ := of_let hz4
   refine go_call fn135 (span_Meet_w hv vr.Y mv1 hv10) rfl rfl rfl rfl rfl rfl rfl ?_
   refine go_call fn134 (span_Len_w mv1 _ rfl) rfl rfl rfl rfl rfl rfl rfl ?_
   refine go_run' ttok 3 rfl ?_
   refine go_nil (fun _ => by kernel_rfl) ?_
   refine block_norm (then_norm (awp_go hmix (go_run' ttok 2 rfl (go_nil nd ?_))))
   have e11 := of_some hz4
   subst e11
   refine then_norm ⟨rfl, ((W64 (vsum1 + (W64 ((span_Len_g mv) * (span_Len_g mv1))))), (W64 (vv1 + 1))), [(2, some 2), (3, some 3)], ⟨rfl, rfl, rfl, rfl, rfl, ⟨wkP_id _ rfl, wkP_id _ rfl, trivial⟩, trivial⟩, hk5⟩
  ·replace hz4 := of_bif_f hz4 c6
   refine awp_exit (then_exit ?_)
   obtain ⟨t, hn12, hq⟩ := of_mapr' hz4
   subst hq
   have hq : t = _ := hk5
   subst hq
   refine then_exit (block_here ?_)
   have e13 := of_some hn12
   refine then_norm ⟨rfl, vsum1, [], ⟨rfl, rfl, rfl, rfl, rfl, ⟨wkP_id _ rfl, trivial⟩, trivial⟩, e13⟩
 ·intro vsum hw3
  subst hw3
  refine awp_seq (awp_go hmix (go_run' ttok 2 rfl (go_nil nd (then_norm (awp_ret ?_)))))
  have e14 := of_some h
  subst e14
  refine ret_ret ?_
  refine fin0 ttok rfl rfl ?_
  exact (wkP_refl _ rfl)
noncomputable def section_Within_cs1 (N : Nat) (vr : TRect) (vv : TSection) (vsum1 : Int) (vv1 : Int) : Option ((Int × Int) ⊕ Int) :=
 (bif (decide (vv1 < ((vv.Rows.length : Nat) : Int))) then (Option.bind (getI vv.Rows vv1) (fun e => (letB (section_heights_g (W64 (vv.Low + vv1)) (W64 ((W64 (vv.Low + vv1)) + 1))) (fun hv => (letB (span_Meet_g e vr.X) (fun mv => (letB (span_Meet_g hv vr.Y) (fun mv1 => some (Sum.inl ((W64 (vsum1 + (W64 ((span_Len_g mv) * (span_Len_g mv1))))), (W64 (vv1 + 1)))))))))))) else some (Sum.inr vsum1))
theorem section_Within_cs1_le (N : Nat) (vr : TRect) (vv : TSection) (vsum1 : Int) (vv1 : Int) : OLe (section_Within_cs1 N vr vv vsum1 vv1) (section_Within_s1 vr vv vsum1 vv1) := by
 unfold section_Within_cs1 section_Within_s1
 repeat' (first | exact ole_rfl | exact section_valid_le _ _ | refine ole_bif ?_ ?_ | refine ole_bind ?_ (fun _ => ?_) | refine ole_let (fun _ => ?_) | refine ole_map ?_ | refine ole_elim (fun _ => ?_) (fun _ => ?_) | refine ole_loop (fun _ => ?_))
noncomputable def section_Within_c (N : Nat) (s : TSection) (vr : TRect) : Option Int :=
 (Option.bind ((section_valid_c N) s) (fun vv => (Option.bind ((iterX N (fun q => section_Within_cs1 N vr vv q.1 q.2) (0, 0)) : Option Int) (fun vsum => some vsum))))
theorem section_Within_le (N : Nat) (s : TSection) (vr : TRect) : OLe (section_Within_c N s vr) (section_Within_g s vr) := by
 unfold section_Within_c section_Within_g
 repeat' (first | exact ole_rfl | exact section_valid_le _ _ | exact section_Within_cs1_le _ _ _ _ _ | refine ole_bif ?_ ?_ | refine ole_bind ?_ (fun _ => ?_) | refine ole_let (fun _ => ?_) | refine ole_map ?_ | refine ole_elim (fun _ => ?_) (fun _ => ?_) | refine ole_loop (fun _ => ?_))
noncomputable def solid_Within_s1 (b : Bx) (vv : (List TSlice)) (ev : (List Sp)) (volume1 : Int) (vv1 : Int) : Option ((Int × Int) ⊕ Int) :=
 (bif (decide (vv1 < ((ev.length : Nat) : Int))) then (Option.bind (getI ev vv1) (fun e => (letB (span_Meet_g e b.z) (fun mv => (bif (decide (0 < (span_Len_g mv))) then (Option.bind (getI vv vv1) (fun e1 => (Option.bind (section_Within_g e1.Sec (⟨b.x, b.y⟩ : TRect)) (fun wv => some (Sum.inl ((W64 (volume1 + (W64 ((span_Len_g mv) * wv)))), (W64 (vv1 + 1)))))))) else some (Sum.inl (volume1, (W64 (vv1 + 1))))))))) else some (Sum.inr volume1))
noncomputable def solid_Within_g (l : (List TSlice)) (b : Bx) : Option Int :=
 (Option.bind (solid_valid_g l) (fun vv => (Option.bind ((Option.bind (solid_extents_g vv) (fun ev => (loopO (fun q => solid_Within_s1 b vv ev q.1 q.2) (0, 0)))) : Option Int) (fun volume => some volume))))
theorem solid_Within_w (l : (List TSlice)) (b : Bx) (r : Int) (h : solid_Within_g l b = some r) : Holds Tryz.prog 88 [((encL encTSlice) l), (encBx b)] [] (I r) [] := by
 unfold solid_Within_g at h
 refine holds_fn Tryz.func88 rfl Tryz.ntmps88 rfl rfl rfl (fun lim => ?_)
 refine awp_seq (awp_go hmix (go_run' ttok 2 rfl (go_nil nd (then_norm (awp_seq (awp_go hmix (go_run' ttok 1 rfl ?_)))))))
 obtain ⟨vv, hv1, h⟩ := of_obind h
 refine go_call fn132 (solid_valid_w l vv hv1) rfl rfl rfl rfl rfl rfl rfl ?_
 refine go_run' ttok 1 rfl (go_nil nd (then_norm (awp_seq (awp_go hmix (go_run' ttok 1 rfl (go_nil nd (then_norm ?_)))))))
 obtain ⟨y, hx2, h⟩ := of_obind h
 refine awp_seqJ (X := Int) [] [] (fun w => [(5, (I w))]) (fun w => []) (fun w => w = y) rfl rfl ?_ ?_
 ·skip
  refine awp_seq (awp_go hmix (go_run' ttok 1 rfl ?_))
  obtain ⟨ev, hv4, hx2⟩ := of_obind hx2
  refine go_call fn133 (solid_extents_w vv ev hv4) rfl rfl rfl rfl rfl rfl rfl ?_
  refine go_lenT encSp ev ttok rfl rfl rfl rfl rfl rfl ?_
  refine go_run' ttok 1 rfl (go_nil nd (then_norm (awp_block ?_)))
  refine awp_loopD (X := (Int × Int)) (Y := Int) [0, 3, 12, 13] [3] (fun q => [(5, (I q.1)), (14, (I q.2))]) (fun q => []) (fun q => solid_Within_s1 b vv ev q.1 q.2) (0, 0) [(3, some 3)] hx2 ⟨rfl, rfl, rfl, rfl, rfl, ⟨wkP_id _ rfl, wkP_id _ rfl, trivial⟩, trivial⟩ (fun x vR vz hz5 hk6 => ?_)
  obtain ⟨volume1, vv1⟩ := x
  change solid_Within_s1 b vv ev volume1 vv1 = _ at hz5
  unfold solid_Within_s1 at hz5
  refine awp_seq (awp_go hmix (go_run' ttok 1 rfl (go_nil nd (then_norm (awp_seq ?_)))))
  refine awp_cond (b := (decide (vv1 < ((ev.length : Nat) : Int)))) rfl (fun c7 => ?_) (fun c7 => ?_)
  ·replace hz5 := of_bif_t hz5 c7
   refine awp_skip (then_norm (awp_seq (awp_block (awp_seq (awp_go hmix (go_run' ttok 1 rfl ?_))))))
   obtain ⟨e, hv8, hz5⟩ := of_obind hz5
   refine go_indexT encSp ev vv1 e hv8 ttok rfl rfl rfl rfl rfl rfl rfl rfl rfl ?_
   refine go_run' ttok 4 rfl (go_nil nd (then_norm (awp_seq (awp_go hmix (go_run' ttok 3 rfl ?_)))))
   obtain ⟨mv, hv9, hz5⟩ := of_let hz5
   refine go_call fn135 (span_Meet_w e b.z mv hv9) rfl rfl rfl rfl rfl rfl rfl ?_
   refine go_call fn134 (span_Len_w mv _ rfl) rfl rfl rfl rfl rfl rfl rfl ?_
   refine go_run' ttok 1 rfl (go_nil nd (then_norm (awp_seq (awp_go hmix (go_run' ttok 2 rfl (go_nil nd (then_norm ?_)))))))
   refine awp_cond (b := (decide (0 < (span_Len_g mv)))) rfl (fun c10 => ?_) (fun c10 => ?_)
   ·replace hz5 := of_bif_t hz5 c10
    refine awp_go hmix (go_run' ttok 4 rfl ?_)
    obtain ⟨e1, hv11, hz5⟩ := of_obind hz5
    refine go_indexT encTSlice vv vv1 e1 hv11 ttok rfl rfl rfl rfl rfl rfl rfl rfl rfl ?_
    refine go_run' ttok 7 rfl ?_
    obtain ⟨wv, hv12, hz5⟩ := of_obind hz5
    refine go_call fn136 (section_Within_w e1.Sec (⟨b.x, b.y⟩ : TRect) wv hv12) rfl rfl rfl rfl rfl rfl rfl ?_
    refine go_run' ttok 3 rfl ?_
    refine go_nil (fun _ => by kernel_rfl) ?_
    refine block_norm (then_norm (awp_go hmix (go_run' ttok 2 rfl (go_nil nd ?_))))
    have e13 := of_some hz5
    subst e13
    refine then_norm ⟨rfl, ((W64 (volume1 + (W64 ((span_Len_g mv) * wv)))), (W64 (vv1 + 1))), [(3, some 3)], ⟨rfl, rfl, rfl, rfl, rfl, ⟨wkP_id _ rfl, wkP_id _ rfl, trivial⟩, trivial⟩, hk6⟩
   ·replace hz5 := of_bif_f hz5 c10
    refine awp_skip (block_norm (then_norm (awp_go hmix (go_run' ttok 2 rfl (go_nil nd ?_)))))
    have e14 := of_some hz5
    subst e14
    refine then_norm ⟨rfl, (volume1, (W64 (vv1 + 1))), [(3, some 3)], ⟨rfl, rfl, rfl, rfl, rfl, ⟨wkP_id _ rfl, wkP_id _ rfl, trivial⟩, trivial⟩, hk6⟩
  ·replace hz5 := of_bif_f hz5 c7
   refine awp_exit (then_exit ?_)
   obtain ⟨t, hn15, hq⟩ := of_mapr' hz5
   subst hq
   have hq : t = _ := hk6
   subst hq
   refine then_exit (block_here ?_)
   have e16 := of_some hn15
   refine then_norm ⟨rfl, volume1, [], ⟨rfl, rfl, rfl, rfl, rfl, ⟨wkP_id _ rfl, trivial⟩, trivial⟩, e16⟩
 ·intro volume hw3
  subst hw3
  refine awp_seq (awp_go hmix (go_run' ttok 2 rfl (go_nil nd (then_norm (awp_ret ?_)))))
  have e17 := of_some h
  subst e17
  refine ret_ret ?_
  refine fin0 ttok rfl rfl ?_
  exact (wkP_refl _ rfl)
noncomputable def solid_Within_cs1 (N : Nat) (b : Bx) (vv : (List TSlice)) (ev : (List Sp)) (volume1 : Int) (vv1 : Int) : Option ((Int × Int) ⊕ Int) :=
 (bif (decide (vv1 < ((ev.length : Nat) : Int))) then (Option.bind (getI ev vv1) (fun e => (letB (span_Meet_g e b.z) (fun mv => (bif (decide (0 < (span_Len_g mv))) then (Option.bind (getI vv vv1) (fun e1 => (Option.bind ((section_Within_c N) e1.Sec (⟨b.x, b.y⟩ : TRect)) (fun wv => some (Sum.inl ((W64 (volume1 + (W64 ((span_Len_g mv) * wv)))), (W64 (vv1 + 1)))))))) else some (Sum.inl (volume1, (W64 (vv1 + 1))))))))) else some (Sum.inr volume1))
theorem solid_Within_cs1_le (N : Nat) (b : Bx) (vv : (List TSlice)) (ev : (List Sp)) (volume1 : Int) (vv1 : Int) : OLe (solid_Within_cs1 N b vv ev volume1 vv1) (solid_Within_s1 b vv ev volume1 vv1) := by
 unfold solid_Within_cs1 solid_Within_s1
 repeat' (first | exact ole_rfl | exact solid_valid_le _ _ | exact solid_extents_le _ _ | exact section_Within_le _ _ _ | refine ole_bif ?_ ?_ | refine ole_bind ?_ (fun _ => ?_) | refine ole_let (fun _ => ?_) | refine ole_map ?_ | refine ole_elim (fun _ => ?_) (fun _ => ?_) | refine ole_loop (fun _ => ?_))
noncomputable def solid_Within_c (N : Nat) (l : (List TSlice)) (b : Bx) : Option Int :=
 (Option.bind ((solid_valid_c N) l) (fun vv => (Option.bind ((Option.bind ((solid_extents_c N) vv) (fun ev => (iterX N (fun q => solid_Within_cs1 N b vv ev q.1 q.2) (0, 0)))) : Option Int) (fun volume => some volume))))
theorem solid_Within_le (N : Nat) (l : (List TSlice)) (b : Bx) : OLe (solid_Within_c N l b) (solid_Within_g l b) := by
 unfold solid_Within_c solid_Within_g
 repeat' (first | exact ole_rfl | exact solid_valid_le _ _ | exact solid_extents_le _ _ | exact section_Within_le _ _ _ | exact solid_Within_cs1_le _ _ _ _ _ _ | refine ole_bif ?_ ?_ | refine ole_bind ?_ (fun _ => ?_) | refine ole_let (fun _ => ?_) | refine ole_map ?_ | refine ole_elim (fun _ => ?_) (fun _ => ?_) | refine ole_loop (fun _ => ?_))
noncomputable def defect_meet_g (a : Bx) (b : Bx) : (Bx × Bool) :=
 (letB (span_Meet_g a.x b.x) (fun mv => (letB (span_Meet_g a.y b.y) (fun mv1 => (letB (span_Meet_g a.z b.z) (fun mv2 => (bif (defect_isEmpty_g mv) then ((⟨(⟨0, 0⟩ : Sp), (⟨0, 0⟩ : Sp), (⟨0, 0⟩ : Sp)⟩ : Bx), false) else (bif (defect_isEmpty_g mv1) then ((⟨(⟨0, 0⟩ : Sp), (⟨0, 0⟩ : Sp), (⟨0, 0⟩ : Sp)⟩ : Bx), false) else (bif (defect_isEmpty_g mv2) then ((⟨(⟨0, 0⟩ : Sp), (⟨0, 0⟩ : Sp), (⟨0, 0⟩ : Sp)⟩ : Bx), false) else ((⟨mv, mv1, mv2⟩ : Bx), true))))))))))
theorem defect_meet_w (a : Bx) (b : Bx) (r : (Bx × Bool)) (h : defect_meet_g a b = r) : Holds Tryz.prog 137 [(encBx a), (encBx b)] [] (.tup [(encBx r.1), (B r.2)]) [] := by
 unfold defect_meet_g at h
 refine holds_fn Tryz.func137 rfl Tryz.ntmps137 rfl rfl rfl (fun lim => ?_)
 refine awp_seq (awp_go hmix (go_run' ttok 4 rfl (go_nil nd (then_norm (awp_seq (awp_go hmix (go_run' ttok 4 rfl ?_)))))))
 obtain ⟨mv, hv1, h⟩ := of_let h
 refine go_call fn135 (span_Meet_w a.x b.x mv hv1) rfl rfl rfl rfl rfl rfl rfl ?_
 refine go_run' ttok 4 rfl ?_
 obtain ⟨mv1, hv2, h⟩ := of_let h
 refine go_call fn135 (span_Meet_w a.y b.y mv1 hv2) rfl rfl rfl rfl rfl rfl rfl ?_
 refine go_run' ttok 4 rfl ?_
 obtain ⟨mv2, hv3, h⟩ := of_let h
 refine go_call fn135 (span_Meet_w a.z b.z mv2 hv3) rfl rfl rfl rfl rfl rfl rfl ?_
 refine go_run' ttok 3 rfl ?_
 refine go_nil (fun _ => by kernel_rfl) ?_
 refine then_norm (awp_seq (awp_seq (awp_go hmix (go_run' ttok 2 rfl ?_))))
 refine go_call fn128 (defect_isEmpty_w mv _ rfl) rfl rfl rfl rfl rfl rfl rfl ?_
 refine go_run' ttok 1 rfl ?_
 refine go_gcase rfl rfl rfl (fun g4 => ?_) (fun g4 => ?_)
 ·rw [g4]
  replace h := of_bif_t h g4
  refine go_run' ttok 9 rfl (go_nil nd (then_norm ?_))
  refine awp_cond rfl (fun tt0 => ?_) (fun h => by cases h)
  clear tt0
  refine awp_seq (awp_go hmix (go_run' ttok 3 rfl (go_nil nd (then_norm (awp_ret (then_ret ?_))))))
  have e5 := h
  subst e5
  refine ret_ret ?_
  refine fin0 ttok rfl rfl ?_
  exact wkP_refl _ rfl
 ·rw [g4]
  replace h := of_bif_f h g4
  refine go_run' ttok 2 rfl ?_
  refine go_call fn128 (defect_isEmpty_w mv1 _ rfl) rfl rfl rfl rfl rfl rfl rfl ?_
  refine go_run' ttok 2 rfl ?_
  refine go_gcase rfl rfl rfl (fun g6 => ?_) (fun g6 => ?_)
  ·rw [g6]
   replace h := of_bif_t h g6
   refine go_run' ttok 4 rfl (go_nil nd (then_norm ?_))
   refine awp_cond rfl (fun tt0 => ?_) (fun h => by cases h)
   clear tt0
   refine awp_seq (awp_go hmix (go_run' ttok 3 rfl (go_nil nd (then_norm (awp_ret (then_ret ?_))))))
   have e7 := h
   subst e7
   refine ret_ret ?_
   refine fin0 ttok rfl rfl ?_
   exact wkP_refl _ rfl
  ·rw [g6]
   replace h := of_bif_f h g6
   refine go_run' ttok 2 rfl ?_
   refine go_call fn128 (defect_isEmpty_w mv2 _ rfl) rfl rfl rfl rfl rfl rfl rfl ?_
   refine go_run' ttok 1 rfl (go_nil nd (then_norm ?_))
   refine awp_cond (b := (defect_isEmpty_g mv2)) rfl (fun c8 => ?_) (fun c8 => ?_)
   ·replace h := of_bif_t h c8
    refine awp_seq (awp_go hmix (go_run' ttok 3 rfl (go_nil nd (then_norm (awp_ret (then_ret ?_))))))
    have e9 := h
    subst e9
    refine ret_ret ?_
    refine fin0 ttok rfl rfl ?_
    exact wkP_refl _ rfl
   ·replace h := of_bif_f h c8
    refine awp_skip (then_norm (awp_seq (awp_go hmix (go_run' ttok 3 rfl (go_nil nd (then_norm (awp_ret ?_)))))))
    have e10 := h
    subst e10
    refine ret_ret ?_
    refine fin0 ttok rfl rfl ?_
    exact wkP_refl _ rfl
noncomputable def defect_back_g (s : Sp) (vat : Int) : Sp :=
 (⟨(W64 (s.a - vat)), (W64 (s.b - vat))⟩ : Sp)
theorem defect_back_w (s : Sp) (vat : Int) (r : Sp) (h : defect_back_g s vat = r) : Holds Tryz.prog 138 [(encSp s), (I vat)] [] (encSp r) [] := by
 unfold defect_back_g at h
 refine holds_fn Tryz.func138 rfl Tryz.ntmps138 rfl rfl rfl (fun lim => ?_)
 refine awp_seq (awp_go hmix (go_run' ttok 2 rfl (go_nil nd (then_norm (awp_seq (awp_go hmix (go_run' ttok 10 rfl (go_nil nd (then_norm (awp_ret ?_))))))))))
 have e1 := h
 subst e1
 refine ret_ret ?_
 refine fin0 ttok rfl rfl ?_
 exact (wkP_refl _ rfl)
noncomputable def defect_Clip_s1 (b : Bx) (vv : Int) : Option (Int ⊕ ((List Df) ⊕ Unit)) :=
 (bif (decide (vv < 3)) then (Option.bind (getI [b.x, b.y, b.z] vv) (fun e => (bif (!(defect_inside_g e (-1099511627776) 1099511627776)) then some (Sum.inr (Sum.inl ([]))) else some (Sum.inl (W64 (vv + 1)))))) else some (Sum.inr (Sum.inr ())))
noncomputable def defect_Clip_s2 (l : (List Df)) (b : Bx) (clipped1 : (List Df)) (vv1 : Int) : Option (((List Df) × Int) ⊕ (List Df)) :=
 (bif (decide (vv1 < ((l.length : Nat) : Int))) then (Option.bind (getI l vv1) (fun e1 => (letB (defect_meet_g e1.b b) (fun mv => (bif mv.2 then (letB (defect_back_g mv.1.x b.x.a) (fun bv => (letB (defect_back_g mv.1.y b.y.a) (fun bv1 => (letB (defect_back_g mv.1.z b.z.a) (fun bv2 => (Option.bind (appO 56 clipped1 ([(⟨e1.k, (⟨bv, bv1, bv2⟩ : Bx)⟩ : Df)])) (fun l1 => some (Sum.inl (l1, (W64 (vv1 + 1)))))))))))) else some (Sum.inl (clipped1, (W64 (vv1 + 1))))))))) else some (Sum.inr clipped1))
noncomputable def defect_Clip_g (l : (List Df)) (b : Bx) : Option (List Df) :=
 (Option.bind (defect_Check_g l) (fun cv => (bif (cv != 0) then some ([]) else (Option.bind ((loopO (fun q => defect_Clip_s1 b q) 0) : Option ((List Df) ⊕ Unit)) (Sum.elim (fun q => some q) (fun _ => (Option.bind ((loopO (fun q => defect_Clip_s2 l b q.1 q.2) ([], 0)) : Option (List Df)) (fun clipped => some clipped))))))))
theorem defect_Clip_w (l : (List Df)) (b : Bx) (r : (List Df)) (h : defect_Clip_g l b = some r) : Holds Tryz.prog 89 [((encL encDf) l), (encBx b)] [] ((encL encDf) r) [] := by
 unfold defect_Clip_g at h
 refine holds_fn Tryz.func89 rfl Tryz.ntmps89 rfl rfl rfl (fun lim => ?_)
 refine awp_seq (awp_go hmix (go_run' ttok 2 rfl (go_nil nd (then_norm (awp_seq (awp_seq (awp_go hmix (go_run' ttok 1 rfl ?_))))))))
 obtain ⟨cv, hv1, h⟩ := of_obind h
 refine go_call fn30 (defect_Check_w l cv hv1) rfl rfl rfl rfl rfl rfl rfl ?_
 refine go_run' ttok 1 rfl (go_nil nd (then_norm ?_))
 refine awp_cond (b := (cv != 0)) rfl (fun c2 => ?_) (fun c2 => ?_)
 ·replace h := of_bif_t h c2
  refine awp_seq (awp_go hmix (go_run' ttok 1 rfl (go_nil nd (then_norm (awp_ret (then_ret ?_))))))
  have e3 := of_some h
  subst e3
  refine ret_ret ?_
  refine fin0 ttok rfl rfl ?_
  exact wkP_nilm
 ·replace h := of_bif_f h c2
  refine awp_skip (then_norm ?_)
  obtain ⟨y, hx4, h⟩ := of_obind h
  refine awp_seqJ (X := Unit) [0, 3] [3] (fun _ => []) (fun _ => []) (fun w => Sum.inr w = y) rfl rfl ?_ ?_
  ·skip
   refine awp_seq (awp_go hmix (go_run' ttok 8 rfl (go_nil nd (then_norm (awp_block ?_)))))
   refine awp_loopD (X := Int) (Y := ((List Df) ⊕ Unit)) [0, 3, 22] [3] (fun q => [(23, (I q))]) (fun q => []) (fun q => defect_Clip_s1 b q) 0 [(3, some 3)] hx4 ⟨rfl, rfl, rfl, rfl, rfl, ⟨wkP_id _ rfl, trivial⟩, trivial⟩ (fun vv vR vz hz6 hk7 => ?_)
   change defect_Clip_s1 b vv = _ at hz6
   unfold defect_Clip_s1 at hz6
   refine awp_seq (awp_go hmix (go_run' ttok 1 rfl (go_nil nd (then_norm (awp_seq ?_)))))
   refine awp_cond (b := (decide (vv < 3))) rfl (fun c8 => ?_) (fun c8 => ?_)
   ·replace hz6 := of_bif_t hz6 c8
    refine awp_skip (then_norm (awp_seq (awp_block (awp_seq (awp_go hmix ?_)))))
    obtain ⟨e, hv9, hz6⟩ := of_obind hz6
    refine go_indexVT encSp [b.x, b.y, b.z] vv e hv9 rfl (by intro j el hj; match j, hj with | 0, hj => (cases hj; rfl) | 1, hj => (cases hj; rfl) | 2, hj => (cases hj; rfl) | (_ + 3), hj => (exact absurd hj (by simp))) ttok rfl rfl rfl rfl rfl rfl rfl rfl ?_
    refine go_run' ttok 2 rfl (go_nil nd (then_norm (awp_seq (awp_go hmix (go_run' ttok 1 rfl ?_)))))
    refine go_call fn129 (defect_inside_w e (-1099511627776) 1099511627776 _ rfl) rfl rfl rfl rfl rfl rfl rfl ?_
    refine go_run' ttok 1 rfl (go_nil nd (then_norm ?_))
    refine awp_cond (b := (!(defect_inside_g e (-1099511627776) 1099511627776))) rfl (fun c10 => ?_) (fun c10 => ?_)
    ·replace hz6 := of_bif_t hz6 c10
     refine awp_seq (awp_go hmix (go_run' ttok 1 rfl (go_nil nd (then_norm (awp_ret (block_ret (then_ret ?_)))))))
     obtain ⟨t, hn11, hq⟩ := of_mapr' hz6
     subst hq
     have hq : t = _ := hk7
     subst hq
     refine then_ret (block_ret ?_)
     obtain ⟨t1, hn12, hq⟩ := of_mapl' hn11
     subst hq
     have hq := of_inl h
     replace hq := of_some hq
     subst hq
     refine then_ret ?_
     have e13 := of_some hn12
     subst e13
     refine ret_ret ?_
     refine fin0 ttok rfl rfl ?_
     exact wkP_nilm
    ·replace hz6 := of_bif_f hz6 c10
     refine awp_skip (block_norm (then_norm (awp_go hmix (go_run' ttok 2 rfl (go_nil nd ?_)))))
     have e14 := of_some hz6
     subst e14
     refine then_norm ⟨rfl, (W64 (vv + 1)), [(3, some 3)], ⟨rfl, rfl, rfl, rfl, rfl, ⟨wkP_id _ rfl, trivial⟩, trivial⟩, hk7⟩
   ·replace hz6 := of_bif_f hz6 c8
    refine awp_exit (then_exit ?_)
    obtain ⟨t2, hn15, hq⟩ := of_mapr' hz6
    subst hq
    have hq : t2 = _ := hk7
    subst hq
    refine then_exit (block_here ?_)
    have e16 := of_some hn15
    refine then_norm ⟨rfl, (), [(3, some 3)], ⟨rfl, rfl, rfl, rfl, rfl, trivial, trivial⟩, e16⟩
  ·intro w hw5
   subst hw5
   replace h := of_inr h
   refine awp_seq (awp_go hmix (go_run' ttok 1 rfl (go_nil nd (then_norm ?_))))
   obtain ⟨y1, hx17, h⟩ := of_obind h
   refine awp_seqJ (X := (List Df)) [] [] (fun w1 => [(7, (.arr 7 0 w1.length))]) (fun w1 => [(7, some ⟨71, 7, w1.map encDf⟩)]) (fun w1 => w1 = y1) rfl rfl ?_ ?_
   ·skip
    refine awp_seq (awp_go hmix (go_run' ttok 1 rfl ?_))
    refine go_lenT encDf l ttok rfl rfl rfl rfl rfl rfl ?_
    refine go_run' ttok 1 rfl (go_nil nd (then_norm (awp_block ?_)))
    refine awp_loopD (X := ((List Df) × Int)) (Y := (List Df)) [3, 30, 31] [3] (fun q => [(7, (.arr 7 0 q.1.length)), (32, (I q.2))]) (fun q => [(7, some ⟨71, 7, q.1.map encDf⟩)]) (fun q => defect_Clip_s2 l b q.1 q.2) ([], 0) [(7, none), (3, some 3)] hx17 ⟨rfl, rfl, rfl, rfl, rfl, ⟨⟨rfl, rfl, (by first | rfl | (simp [setI]; done) | omega | (dsimp only; omega) | (simp [setI]; omega))⟩, wkP_id _ rfl, trivial⟩, ⟨rfl, trivial⟩⟩ (fun x vR1 vz1 hz19 hk20 => ?_)
    obtain ⟨clipped1, vv1⟩ := x
    change defect_Clip_s2 l b clipped1 vv1 = _ at hz19
    unfold defect_Clip_s2 at hz19
    refine awp_seq (awp_go hmix (go_run' ttok 1 rfl (go_nil nd (then_norm (awp_seq ?_)))))
    refine awp_cond (b := (decide (vv1 < ((l.length : Nat) : Int)))) rfl (fun c21 => ?_) (fun c21 => ?_)
    ·replace hz19 := of_bif_t hz19 c21
     refine awp_skip (then_norm (awp_seq (awp_block (awp_seq (awp_go hmix ?_)))))
     obtain ⟨e1, hv22, hz19⟩ := of_obind hz19
     refine go_indexT encDf l vv1 e1 hv22 ttok rfl rfl rfl rfl rfl rfl rfl rfl rfl ?_
     refine go_run' ttok 3 rfl (go_nil nd (then_norm (awp_seq (awp_go hmix (go_run' ttok 3 rfl ?_)))))
     obtain ⟨mv, hv23, hz19⟩ := of_let hz19
     refine go_call fn137 (defect_meet_w e1.b b mv hv23) rfl rfl rfl rfl rfl rfl rfl ?_
     refine go_run' ttok 6 rfl (go_nil nd (then_norm (awp_seq (awp_go hmix (go_run' ttok 1 rfl (go_nil nd (then_norm ?_)))))))
     refine awp_cond (b := mv.2) rfl (fun c24 => ?_) (fun c24 => ?_)
     ·replace hz19 := of_bif_t hz19 c24
      refine awp_seq (awp_go hmix (go_run' ttok 5 rfl ?_))
      obtain ⟨bv, hv25, hz19⟩ := of_let hz19
      refine go_call fn138 (defect_back_w mv.1.x b.x.a bv hv25) rfl rfl rfl rfl rfl rfl rfl ?_
      refine go_run' ttok 5 rfl ?_
      obtain ⟨bv1, hv26, hz19⟩ := of_let hz19
      refine go_call fn138 (defect_back_w mv.1.y b.y.a bv1 hv26) rfl rfl rfl rfl rfl rfl rfl ?_
      refine go_run' ttok 5 rfl ?_
      obtain ⟨bv2, hv27, hz19⟩ := of_let hz19
      refine go_call fn138 (defect_back_w mv.1.z b.z.a bv2 hv27) rfl rfl rfl rfl rfl rfl rfl ?_
      refine go_run' ttok 3 rfl ?_
      refine go_nil (fun _ => by kernel_rfl) ?_
      refine then_norm (awp_go hmix (go_run' ttok 6 rfl ?_))
      obtain ⟨l1, hv28, hz19⟩ := of_obind hz19
      refine go_appT encDf clipped1 ([(⟨e1.k, (⟨bv, bv1, bv2⟩ : Bx)⟩ : Df)]) l1 hv28 (fun _ => rfl) (by first | rfl | (simp [setI]; done) | omega | (dsimp only; omega) | (simp [setI]; omega)) (by first | rfl | (simp [setI]; done) | omega | (dsimp only; omega) | (simp [setI]; omega)) ttok rfl rfl rfl rfl rfl rfl rfl rfl rfl rfl rfl rfl rfl rfl rfl rfl rfl ?_
      refine go_run' ttok 1 rfl (go_nil nd (block_norm (then_norm (awp_go hmix (go_run' ttok 2 rfl (go_nil nd ?_))))))
      have e29 := of_some hz19
      subst e29
      refine then_norm ⟨rfl, (l1, (W64 (vv1 + 1))), [(7, some 69), (3, some 3)], ⟨rfl, rfl, rfl, rfl, rfl, ⟨⟨rfl, rfl, (by first | rfl | (simp [setI]; done) | omega | (dsimp only; omega) | (simp [setI]; omega))⟩, wkP_id _ rfl, trivial⟩, ⟨⟨_, rfl, rfl, rfl, wkX_map (enc := encDf) l1 (fun _ => rfl)⟩, trivial⟩⟩, hk20⟩
     ·replace hz19 := of_bif_f hz19 c24
      refine awp_skip (block_norm (then_norm (awp_go hmix (go_run' ttok 2 rfl (go_nil nd ?_)))))
      have e30 := of_some hz19
      subst e30
      refine then_norm ⟨rfl, (clipped1, (W64 (vv1 + 1))), [(7, some 7), (3, some 3)], ⟨rfl, rfl, rfl, rfl, rfl, ⟨⟨rfl, rfl, (by first | rfl | (simp [setI]; done) | omega | (dsimp only; omega) | (simp [setI]; omega))⟩, wkP_id _ rfl, trivial⟩, ⟨⟨_, rfl, rfl, rfl, wkX_map (enc := encDf) clipped1 (fun _ => rfl)⟩, trivial⟩⟩, hk20⟩
    ·replace hz19 := of_bif_f hz19 c21
     refine awp_exit (then_exit ?_)
     obtain ⟨t3, hn31, hq⟩ := of_mapr' hz19
     subst hq
     have hq : t3 = _ := hk20
     subst hq
     refine then_exit (block_here ?_)
     have e32 := of_some hn31
     refine then_norm ⟨rfl, clipped1, [(7, some 7)], ⟨rfl, rfl, rfl, rfl, rfl, ⟨⟨rfl, rfl, (by first | rfl | (simp [setI]; done) | omega | (dsimp only; omega) | (simp [setI]; omega))⟩, trivial⟩, ⟨⟨_, rfl, rfl, rfl, wkX_map (enc := encDf) clipped1 (fun _ => rfl)⟩, trivial⟩⟩, e32⟩
   ·intro clipped hw18
    subst hw18
    refine awp_seq (awp_go hmix (go_run' ttok 2 rfl (go_nil nd (then_norm ?_))))
    refine awp_freezeM [] [] [(7, some ⟨71, 7, clipped.map encDf⟩)] [] [(4, (encL encDf clipped))] [] rfl rfl rfl rfl rfl ⟨rfl, by decide, trivial⟩ ⟨(wkP_lend rfl (by first | rfl | (simp [setI]; done) | omega | (dsimp only; omega) | (simp [setI]; omega)) (fun _ => rfl)), trivial⟩ trivial ?_
    refine awp_ret ?_
    have e33 := of_some h
    subst e33
    refine ret_ret ?_
    refine fin0 ttok rfl rfl ?_
    exact (wkP_refl _ rfl)
noncomputable def defect_Clip_cs1 (N : Nat) (b : Bx) (vv : Int) : Option (Int ⊕ ((List Df) ⊕ Unit)) :=
 (bif (decide (vv < 3)) then (Option.bind (getI [b.x, b.y, b.z] vv) (fun e => (bif (!(defect_inside_g e (-1099511627776) 1099511627776)) then some (Sum.inr (Sum.inl ([]))) else some (Sum.inl (W64 (vv + 1)))))) else some (Sum.inr (Sum.inr ())))
theorem defect_Clip_cs1_le (N : Nat) (b : Bx) (vv : Int) : OLe (defect_Clip_cs1 N b vv) (defect_Clip_s1 b vv) := by
 unfold defect_Clip_cs1 defect_Clip_s1
 repeat' (first | exact ole_rfl | exact defect_Check_le _ _ | refine ole_bif ?_ ?_ | refine ole_bind ?_ (fun _ => ?_) | refine ole_let (fun _ => ?_) | refine ole_map ?_ | refine ole_elim (fun _ => ?_) (fun _ => ?_) | refine ole_loop (fun _ => ?_))
noncomputable def defect_Clip_cs2 (N : Nat) (l : (List Df)) (b : Bx) (clipped1 : (List Df)) (vv1 : Int) : Option (((List Df) × Int) ⊕ (List Df)) :=
 (bif (decide (vv1 < ((l.length : Nat) : Int))) then (Option.bind (getI l vv1) (fun e1 => (letB (defect_meet_g e1.b b) (fun mv => (bif mv.2 then (letB (defect_back_g mv.1.x b.x.a) (fun bv => (letB (defect_back_g mv.1.y b.y.a) (fun bv1 => (letB (defect_back_g mv.1.z b.z.a) (fun bv2 => (Option.bind (appO 56 clipped1 ([(⟨e1.k, (⟨bv, bv1, bv2⟩ : Bx)⟩ : Df)])) (fun l1 => some (Sum.inl (l1, (W64 (vv1 + 1)))))))))))) else some (Sum.inl (clipped1, (W64 (vv1 + 1))))))))) else some (Sum.inr clipped1))
theorem defect_Clip_cs2_le (N : Nat) (l : (List Df)) (b : Bx) (clipped1 : (List Df)) (vv1 : Int) : OLe (defect_Clip_cs2 N l b clipped1 vv1) (defect_Clip_s2 l b clipped1 vv1) := by
 unfold defect_Clip_cs2 defect_Clip_s2
 repeat' (first | exact ole_rfl | exact defect_Check_le _ _ | exact defect_Clip_cs1_le _ _ _ | refine ole_bif ?_ ?_ | refine ole_bind ?_ (fun _ => ?_) | refine ole_let (fun _ => ?_) | refine ole_map ?_ | refine ole_elim (fun _ => ?_) (fun _ => ?_) | refine ole_loop (fun _ => ?_))
noncomputable def defect_Clip_c (N : Nat) (l : (List Df)) (b : Bx) : Option (List Df) :=
 (Option.bind ((defect_Check_c N) l) (fun cv => (bif (cv != 0) then some ([]) else (Option.bind ((iterX N (fun q => defect_Clip_cs1 N b q) 0) : Option ((List Df) ⊕ Unit)) (Sum.elim (fun q => some q) (fun _ => (Option.bind ((iterX N (fun q => defect_Clip_cs2 N l b q.1 q.2) ([], 0)) : Option (List Df)) (fun clipped => some clipped))))))))
theorem defect_Clip_le (N : Nat) (l : (List Df)) (b : Bx) : OLe (defect_Clip_c N l b) (defect_Clip_g l b) := by
 unfold defect_Clip_c defect_Clip_g
 repeat' (first | exact ole_rfl | exact defect_Check_le _ _ | exact defect_Clip_cs1_le _ _ _ | exact defect_Clip_cs2_le _ _ _ _ _ | refine ole_bif ?_ ?_ | refine ole_bind ?_ (fun _ => ?_) | refine ole_let (fun _ => ?_) | refine ole_map ?_ | refine ole_elim (fun _ => ?_) (fun _ => ?_) | refine ole_loop (fun _ => ?_))
noncomputable def worth_isRect_s1 (vr : TRect) (vv : Int) : Option (Int ⊕ (Bool ⊕ Unit)) :=
 (bif (decide (vv < 2)) then (Option.bind (getI [vr.X, vr.Y] vv) (fun e => (bif (decide (e.a < (-600))) then some (Sum.inr (Sum.inl false)) else (bif (decide (600 < e.b)) then some (Sum.inr (Sum.inl false)) else (bif (decide (e.b ≤ e.a)) then some (Sum.inr (Sum.inl false)) else some (Sum.inl (W64 (vv + 1)))))))) else some (Sum.inr (Sum.inr ())))
noncomputable def worth_isRect_g (vr : TRect) : Option Bool :=
 (Option.bind ((loopO (fun q => worth_isRect_s1 vr q) 0) : Option (Bool ⊕ Unit)) (Sum.elim (fun q => some q) (fun _ => some true)))
theorem worth_isRect_w (vr : TRect) (r : Bool) (h : worth_isRect_g vr = some r) : Holds Tryz.prog 140 [(encTRect vr)] [] (B r) [] := by
 unfold worth_isRect_g at h
 refine holds_fn Tryz.func140 rfl Tryz.ntmps140 rfl rfl rfl (fun lim => ?_)
 refine awp_seq (awp_go hmix (go_run' ttok 2 rfl (go_nil nd (then_norm ?_))))
 obtain ⟨y, hx1, h⟩ := of_obind h
 refine awp_seqJ (X := Unit) [] [] (fun _ => []) (fun _ => []) (fun w => Sum.inr w = y) rfl rfl ?_ ?_
 ·skip
  refine awp_seq (awp_go hmix (go_run' ttok 6 rfl (go_nil nd (then_norm (awp_block ?_)))))
  refine awp_loopD (X := Int) (Y := (Bool ⊕ Unit)) [9] [] (fun q => [(10, (I q))]) (fun q => []) (fun q => worth_isRect_s1 vr q) 0 [] hx1 ⟨rfl, rfl, rfl, rfl, rfl, ⟨wkP_id _ rfl, trivial⟩, trivial⟩ (fun vv vR vz hz3 hk4 => ?_)
  change worth_isRect_s1 vr vv = _ at hz3
  unfold worth_isRect_s1 at hz3
  refine awp_seq (awp_go hmix (go_run' ttok 1 rfl (go_nil nd (then_norm (awp_seq ?_)))))
  refine awp_cond (b := (decide (vv < 2))) rfl (fun c5 => ?_) (fun c5 => ?_)
  ·replace hz3 := of_bif_t hz3 c5
   refine awp_skip (then_norm (awp_seq (awp_block (awp_seq (awp_go hmix ?_)))))
   obtain ⟨e, hv6, hz3⟩ := of_obind hz3
   refine go_indexVT encSp [vr.X, vr.Y] vv e hv6 rfl (by intro j el hj; match j, hj with | 0, hj => (cases hj; rfl) | 1, hj => (cases hj; rfl) | (_ + 2), hj => (exact absurd hj (by simp))) ttok rfl rfl rfl rfl rfl rfl rfl rfl ?_
   refine go_run' ttok 2 rfl (go_nil nd (then_norm (awp_seq (awp_go hmix (go_run' ttok 4 rfl ?_)))))
   refine go_gcase rfl rfl rfl (fun g7 => ?_) (fun g7 => ?_)
   ·rw [g7]
    replace hz3 := of_bif_t hz3 g7
    refine go_run' ttok 11 rfl (go_nil nd (then_norm ?_))
    refine awp_cond rfl (fun tt0 => ?_) (fun h => by cases h)
    clear tt0
    refine awp_seq (awp_go hmix (go_run' ttok 1 rfl (go_nil nd (then_norm (awp_ret (block_ret (then_ret ?_)))))))
    obtain ⟨t, hn8, hq⟩ := of_mapr' hz3
    subst hq
    have hq : t = _ := hk4
    subst hq
    refine then_ret (block_ret ?_)
    obtain ⟨t1, hn9, hq⟩ := of_mapl' hn8
    subst hq
    have hq := of_inl h
    replace hq := of_some hq
    subst hq
    refine then_ret ?_
    have e10 := of_some hn9
    subst e10
    refine ret_ret ?_
    refine fin0 ttok rfl rfl ?_
    exact (wkP_refl _ rfl)
   ·rw [g7]
    replace hz3 := of_bif_f hz3 g7
    refine go_run' ttok 5 rfl ?_
    refine go_gcase rfl rfl rfl (fun g11 => ?_) (fun g11 => ?_)
    ·rw [g11]
     replace hz3 := of_bif_t hz3 g11
     refine go_run' ttok 6 rfl (go_nil nd (then_norm ?_))
     refine awp_cond rfl (fun tt0 => ?_) (fun h => by cases h)
     clear tt0
     refine awp_seq (awp_go hmix (go_run' ttok 1 rfl (go_nil nd (then_norm (awp_ret (block_ret (then_ret ?_)))))))
     obtain ⟨t2, hn12, hq⟩ := of_mapr' hz3
     subst hq
     have hq : t2 = _ := hk4
     subst hq
     refine then_ret (block_ret ?_)
     obtain ⟨t3, hn13, hq⟩ := of_mapl' hn12
     subst hq
     have hq := of_inl h
     replace hq := of_some hq
     subst hq
     refine then_ret ?_
     have e14 := of_some hn13
     subst e14
     refine ret_ret ?_
     refine fin0 ttok rfl rfl ?_
     exact (wkP_refl _ rfl)
    ·rw [g11]
     replace hz3 := of_bif_f hz3 g11
     refine go_run' ttok 6 rfl (go_nil nd (then_norm ?_))
     refine awp_cond (b := (decide (e.b ≤ e.a))) rfl (fun c15 => ?_) (fun c15 => ?_)
     ·replace hz3 := of_bif_t hz3 c15
      refine awp_seq (awp_go hmix (go_run' ttok 1 rfl (go_nil nd (then_norm (awp_ret (block_ret (then_ret ?_)))))))
      obtain ⟨t4, hn16, hq⟩ := of_mapr' hz3
      subst hq
      have hq : t4 = _ := hk4
      subst hq
      refine then_ret (block_ret ?_)
      obtain ⟨t5, hn17, hq⟩ := of_mapl' hn16
      subst hq
      have hq := of_inl h
      replace hq := of_some hq
      subst hq
      refine then_ret ?_
      have e18 := of_some hn17
      subst e18
      refine ret_ret ?_
      refine fin0 ttok rfl rfl ?_
      exact (wkP_refl _ rfl)
     ·replace hz3 := of_bif_f hz3 c15
      refine awp_skip (block_norm (then_norm (awp_go hmix (go_run' ttok 2 rfl (go_nil nd ?_)))))
      have e19 := of_some hz3
      subst e19
      refine then_norm ⟨rfl, (W64 (vv + 1)), [], ⟨rfl, rfl, rfl, rfl, rfl, ⟨wkP_id _ rfl, trivial⟩, trivial⟩, hk4⟩
  ·replace hz3 := of_bif_f hz3 c5
   refine awp_exit (then_exit ?_)
   obtain ⟨t6, hn20, hq⟩ := of_mapr' hz3
   subst hq
   have hq : t6 = _ := hk4
   subst hq
   refine then_exit (block_here ?_)
   have e21 := of_some hn20
   refine then_norm ⟨rfl, (), [], ⟨rfl, rfl, rfl, rfl, rfl, trivial, trivial⟩, e21⟩
 ·intro w hw2
  subst hw2
  replace h := of_inr h
  refine awp_seq (awp_go hmix (go_run' ttok 1 rfl (go_nil nd (then_norm (awp_ret ?_)))))
  have e22 := of_some h
  subst e22
  refine ret_ret ?_
  refine fin0 ttok rfl rfl ?_
  exact (wkP_refl _ rfl)
noncomputable def worth_isRect_cs1 (N : Nat) (vr : TRect) (vv : Int) : Option (Int ⊕ (Bool ⊕ Unit)) :=
 (bif (decide (vv < 2)) then (Option.bind (getI [vr.X, vr.Y] vv) (fun e => (bif (decide (e.a < (-600))) then some (Sum.inr (Sum.inl false)) else (bif (decide (600 < e.b)) then some (Sum.inr (Sum.inl false)) else (bif (decide (e.b ≤ e.a)) then some (Sum.inr (Sum.inl false)) else some (Sum.inl (W64 (vv + 1)))))))) else some (Sum.inr (Sum.inr ())))
theorem worth_isRect_cs1_le (N : Nat) (vr : TRect) (vv : Int) : OLe (worth_isRect_cs1 N vr vv) (worth_isRect_s1 vr vv) := by
 unfold worth_isRect_cs1 worth_isRect_s1
 repeat' (first | exact ole_rfl | refine ole_bif ?_ ?_ | refine ole_bind ?_ (fun _ => ?_) | refine ole_let (fun _ => ?_) | refine ole_map ?_ | refine ole_elim (fun _ => ?_) (fun _ => ?_) | refine ole_loop (fun _ => ?_))
noncomputable def worth_isRect_c (N : Nat) (vr : TRect) : Option Bool :=
 (Option.bind ((iterX N (fun q => worth_isRect_cs1 N vr q) 0) : Option (Bool ⊕ Unit)) (Sum.elim (fun q => some q) (fun _ => some true)))
theorem worth_isRect_le (N : Nat) (vr : TRect) : OLe (worth_isRect_c N vr) (worth_isRect_g vr) := by
 unfold worth_isRect_c worth_isRect_g
 repeat' (first | exact ole_rfl | exact worth_isRect_cs1_le _ _ _ | refine ole_bif ?_ ?_ | refine ole_bind ?_ (fun _ => ?_) | refine ole_let (fun _ => ?_) | refine ole_map ?_ | refine ole_elim (fun _ => ?_) (fun _ => ?_) | refine ole_loop (fun _ => ?_))
noncomputable def solid_Length_s1 (vv : (List TSlice)) (length1 : Int) (vv1 : Int) : Option ((Int × Int) ⊕ Int) :=
 (bif (decide (vv1 < ((vv.length : Nat) : Int))) then (Option.bind (getI vv vv1) (fun e => some (Sum.inl ((W64 (length1 + e.Len)), (W64 (vv1 + 1)))))) else some (Sum.inr length1))
noncomputable def solid_Length_g (l : (List TSlice)) : Option Int :=
 (Option.bind ((Option.bind (solid_valid_g l) (fun vv => (loopO (fun q => solid_Length_s1 vv q.1 q.2) (0, 0)))) : Option Int) (fun length => some length))
theorem solid_Length_w (l : (List TSlice)) (r : Int) (h : solid_Length_g l = some r) : Holds Tryz.prog 142 [((encL encTSlice) l)] [] (I r) [] := by
 unfold solid_Length_g at h
 refine holds_fn Tryz.func142 rfl Tryz.ntmps142 rfl rfl rfl (fun lim => ?_)
 refine awp_seq (awp_go hmix (go_run' ttok 1 rfl (go_nil nd (then_norm (awp_seq (awp_go hmix (go_run' ttok 1 rfl (go_nil nd (then_norm ?_)))))))))
 obtain ⟨y, hx1, h⟩ := of_obind h
 refine awp_seqJ (X := Int) [] [] (fun w => [(3, (I w))]) (fun w => []) (fun w => w = y) rfl rfl ?_ ?_
 ·skip
  refine awp_seq (awp_go hmix (go_run' ttok 1 rfl ?_))
  obtain ⟨vv, hv3, hx1⟩ := of_obind hx1
  refine go_call fn132 (solid_valid_w l vv hv3) rfl rfl rfl rfl rfl rfl rfl ?_
  refine go_lenT encTSlice vv ttok rfl rfl rfl rfl rfl rfl ?_
  refine go_run' ttok 1 rfl (go_nil nd (then_norm (awp_block ?_)))
  refine awp_loopD (X := (Int × Int)) (Y := Int) [7, 8] [] (fun q => [(3, (I q.1)), (9, (I q.2))]) (fun q => []) (fun q => solid_Length_s1 vv q.1 q.2) (0, 0) [] hx1 ⟨rfl, rfl, rfl, rfl, rfl, ⟨wkP_id _ rfl, wkP_id _ rfl, trivial⟩, trivial⟩ (fun x vR vz hz4 hk5 => ?_)
  obtain ⟨length1, vv1⟩ := x
  change solid_Length_s1 vv length1 vv1 = _ at hz4
  unfold solid_Length_s1 at hz4
  refine awp_seq (awp_go hmix (go_run' ttok 1 rfl (go_nil nd (then_norm (awp_seq ?_)))))
  refine awp_cond (b := (decide (vv1 < ((vv.length : Nat) : Int)))) rfl (fun c6 => ?_) (fun c6 => ?_)
  ·replace hz4 := of_bif_t hz4 c6
   refine awp_skip (then_norm (awp_seq (awp_block (awp_seq (awp_go hmix ?_)))))
   obtain ⟨e, hv7, hz4⟩ := of_obind hz4
   refine go_indexT encTSlice vv vv1 e hv7 ttok rfl rfl rfl rfl rfl rfl rfl rfl rfl ?_
   refine go_run' ttok 3 rfl (go_nil nd (then_norm (awp_go hmix (go_run' ttok 5 rfl (go_nil nd (block_norm (then_norm (awp_go hmix (go_run' ttok 2 rfl (go_nil nd ?_))))))))))
   have e8 := of_some hz4
   subst e8
   refine then_norm ⟨rfl, ((W64 (length1 + e.Len)), (W64 (vv1 + 1))), [], ⟨rfl, rfl, rfl, rfl, rfl, ⟨wkP_id _ rfl, wkP_id _ rfl, trivial⟩, trivial⟩, hk5⟩
  ·replace hz4 := of_bif_f hz4 c6
   refine awp_exit (then_exit ?_)
   obtain ⟨t, hn9, hq⟩ := of_mapr' hz4
   subst hq
   have hq : t = _ := hk5
   subst hq
   refine then_exit (block_here ?_)
   have e10 := of_some hn9
   refine then_norm ⟨rfl, length1, [], ⟨rfl, rfl, rfl, rfl, rfl, ⟨wkP_id _ rfl, trivial⟩, trivial⟩, e10⟩
 ·intro length hw2
  subst hw2
  refine awp_seq (awp_go hmix (go_run' ttok 2 rfl (go_nil nd (then_norm (awp_ret ?_)))))
  have e11 := of_some h
  subst e11
  refine ret_ret ?_
  refine fin0 ttok rfl rfl ?_
  exact (wkP_refl _ rfl)
noncomputable def solid_Length_cs1 (N : Nat) (vv : (List TSlice)) (length1 : Int) (vv1 : Int) : Option ((Int × Int) ⊕ Int) :=
 (bif (decide (vv1 < ((vv.length : Nat) : Int))) then (Option.bind (getI vv vv1) (fun e => some (Sum.inl ((W64 (length1 + e.Len)), (W64 (vv1 + 1)))))) else some (Sum.inr length1))
theorem solid_Length_cs1_le (N : Nat) (vv : (List TSlice)) (length1 : Int) (vv1 : Int) : OLe (solid_Length_cs1 N vv length1 vv1) (solid_Length_s1 vv length1 vv1) := by
 unfold solid_Length_cs1 solid_Length_s1
 repeat' (first | exact ole_rfl | exact solid_valid_le _ _ | refine ole_bif ?_ ?_ | refine ole_bind ?_ (fun _ => ?_) | refine ole_let (fun _ => ?_) | refine ole_map ?_ | refine ole_elim (fun _ => ?_) (fun _ => ?_) | refine ole_loop (fun _ => ?_))
noncomputable def solid_Length_c (N : Nat) (l : (List TSlice)) : Option Int :=
 (Option.bind ((Option.bind ((solid_valid_c N) l) (fun vv => (iterX N (fun q => solid_Length_cs1 N vv q.1 q.2) (0, 0)))) : Option Int) (fun length => some length))
theorem solid_Length_le (N : Nat) (l : (List TSlice)) : OLe (solid_Length_c N l) (solid_Length_g l) := by
 unfold solid_Length_c solid_Length_g
 repeat' (first | exact ole_rfl | exact solid_valid_le _ _ | exact solid_Length_cs1_le _ _ _ _ | refine ole_bif ?_ ?_ | refine ole_bind ?_ (fun _ => ?_) | refine ole_let (fun _ => ?_) | refine ole_map ?_ | refine ole_elim (fun _ => ?_) (fun _ => ?_) | refine ole_loop (fun _ => ?_))
noncomputable def worth_isWithin_g (vz : Sp) (length : Int) : Bool :=
 (bif (decide (0 ≤ vz.a)) then (bif (decide (vz.a < vz.b)) then (decide (vz.b ≤ length)) else false) else false)
theorem worth_isWithin_w (vz : Sp) (length : Int) (r : Bool) (h : worth_isWithin_g vz length = r) : Holds Tryz.prog 141 [(encSp vz), (I length)] [] (B r) [] := by
 unfold worth_isWithin_g at h
 refine holds_fn Tryz.func141 rfl Tryz.ntmps141 rfl rfl rfl (fun lim => ?_)
 refine awp_seq (awp_go hmix (go_run' ttok 2 rfl (go_nil nd (then_norm (awp_seq (awp_go hmix (go_run' ttok 4 rfl ?_)))))))
 refine go_gcase rfl rfl rfl (fun g1 => ?_) (fun g1 => ?_)
 ·rw [g1]
  replace h := of_bif_t h g1
  refine go_run' ttok 7 rfl ?_
  refine go_gcase rfl rfl rfl (fun g2 => ?_) (fun g2 => ?_)
  ·rw [g2]
   replace h := of_bif_t h g2
   refine go_run' ttok 6 rfl (go_nil nd (then_norm (awp_ret ?_)))
   have e3 := h
   subst e3
   refine ret_ret ?_
   refine fin0 ttok rfl rfl ?_
   exact (wkP_refl _ rfl)
  ·rw [g2]
   replace h := of_bif_f h g2
   refine go_run' ttok 6 rfl (go_nil nd (then_norm (awp_ret ?_)))
   have e4 := h
   subst e4
   refine ret_ret ?_
   refine fin0 ttok rfl rfl ?_
   exact (wkP_refl _ rfl)
 ·rw [g1]
  replace h := of_bif_f h g1
  refine go_run' ttok 13 rfl (go_nil nd (then_norm (awp_ret ?_)))
  have e5 := h
  subst e5
  refine ret_ret ?_
  refine fin0 ttok rfl rfl ?_
  exact (wkP_refl _ rfl)
noncomputable def worth_lacks_s1 (l : (List TSlice)) (vr : TRect) (vlist1 : (List Tworth_zone)) (vat : Int) (vv : Int) : Option (((List Tworth_zone) × Int × Int) ⊕ (List Tworth_zone)) :=
 (bif (decide (vv < ((l.length : Nat) : Int))) then (Option.bind (getI l vv) (fun e => (Option.bind (section_Within_g e.Sec vr) (fun wv => (bif ((W64 ((W64 (vr.X.b - vr.X.a)) * (W64 (vr.Y.b - vr.Y.a)))) != 0) then (Option.bind (appO 24 vlist1 ([(⟨(⟨vat, (W64 (vat + e.Len))⟩ : Sp), (W64 (Int.tdiv (W64 ((W64 ((W64 (1000 * (W64 ((W64 ((W64 (vr.X.b - vr.X.a)) * (W64 (vr.Y.b - vr.Y.a)))) - wv)))) + (W64 ((W64 (vr.X.b - vr.X.a)) * (W64 (vr.Y.b - vr.Y.a)))))) - 1)) (W64 ((W64 (vr.X.b - vr.X.a)) * (W64 (vr.Y.b - vr.Y.a))))))⟩ : Tworth_zone)])) (fun l1 => some (Sum.inl (l1, (W64 (vat + e.Len)), (W64 (vv + 1)))))) else none))))) else some (Sum.inr vlist1))
noncomputable def worth_lacks_g (l : (List TSlice)) (vr : TRect) : Option (List Tworth_zone) :=
 (Option.bind ((loopO (fun q => worth_lacks_s1 l vr q.1 q.2.1 q.2.2) ([], 0, 0)) : Option (List Tworth_zone)) (fun vlist => some vlist))
theorem worth_lacks_w (l : (List TSlice)) (vr : TRect) (r : (List Tworth_zone)) (h : worth_lacks_g l vr = some r) : Holds Tryz.prog 144 [((encL encTSlice) l), (encTRect vr)] [] ((encL encTworth_zone) r) [] := by
 unfold worth_lacks_g at h
 refine holds_fn Tryz.func144 rfl Tryz.ntmps144 rfl rfl rfl (fun lim => ?_)
 refine awp_seq (awp_go hmix (go_run' ttok 2 rfl (go_nil nd (then_norm (awp_seq (awp_go hmix (go_run' ttok 16 rfl (go_nil nd (then_norm (awp_seq (awp_go hmix (go_run' ttok 1 rfl (go_nil nd (then_norm (awp_seq (awp_go hmix (go_run' ttok 1 rfl (go_nil nd (then_norm ?_)))))))))))))))))))
 obtain ⟨y, hx1, h⟩ := of_obind h
 refine awp_seqJ (X := (List Tworth_zone)) [] [] (fun w => [(6, (.arr 6 0 w.length))]) (fun w => [(6, some ⟨200, 3, w.map encTworth_zone⟩)]) (fun w => w = y) rfl rfl ?_ ?_
 ·skip
  refine awp_seq (awp_go hmix (go_run' ttok 1 rfl ?_))
  refine go_lenT encTSlice l ttok rfl rfl rfl rfl rfl rfl ?_
  refine go_run' ttok 1 rfl (go_nil nd (then_norm (awp_block ?_)))
  refine awp_loopD (X := ((List Tworth_zone) × Int × Int)) (Y := (List Tworth_zone)) [3, 5, 27, 28] [3] (fun q => [(6, (.arr 6 0 q.1.length)), (7, (I q.2.1)), (29, (I q.2.2))]) (fun q => [(6, some ⟨200, 3, q.1.map encTworth_zone⟩)]) (fun q => worth_lacks_s1 l vr q.1 q.2.1 q.2.2) ([], 0, 0) [(6, none), (3, some 3)] hx1 ⟨rfl, rfl, rfl, rfl, rfl, ⟨⟨rfl, rfl, (by first | rfl | (simp [setI]; done) | omega | (dsimp only; omega) | (simp [setI]; omega))⟩, wkP_id _ rfl, wkP_id _ rfl, trivial⟩, ⟨rfl, trivial⟩⟩ (fun x vR vz hz3 hk4 => ?_)
  obtain ⟨vlist1, vat, vv⟩ := x
  change worth_lacks_s1 l vr vlist1 vat vv = _ at hz3
  unfold worth_lacks_s1 at hz3
  refine awp_seq (awp_go hmix (go_run' ttok 1 rfl (go_nil nd (then_norm (awp_seq ?_)))))
  refine awp_cond (b := (decide (vv < ((l.length : Nat) : Int)))) rfl (fun c5 => ?_) (fun c5 => ?_)
  ·replace hz3 := of_bif_t hz3 c5
   refine awp_skip (then_norm (awp_seq (awp_block (awp_seq (awp_go hmix ?_)))))
   obtain ⟨e, hv6, hz3⟩ := of_obind hz3
   refine go_indexT encTSlice l vv e hv6 ttok rfl rfl rfl rfl rfl rfl rfl rfl rfl ?_
   refine go_run' ttok 3 rfl (go_nil nd (then_norm (awp_seq (awp_go hmix (go_run' ttok 4 rfl ?_)))))
   obtain ⟨wv, hv7, hz3⟩ := of_obind hz3
   refine go_call fn136 (section_Within_w e.Sec vr wv hv7) rfl rfl rfl rfl rfl rfl rfl ?_
   refine go_run' ttok 2 rfl (go_nil nd (then_norm (awp_seq (awp_go hmix (go_run' ttok 8 rfl (go_nil nd (then_norm (awp_seq (awp_go hmix (go_run' ttok 8 rfl ?_))))))))))
   obtain ⟨hd8, hz3⟩ := of_grd hz3
   refine go_quoT (W64 ((W64 ((W64 (1000 * (W64 ((W64 ((W64 (vr.X.b - vr.X.a)) * (W64 (vr.Y.b - vr.Y.a)))) - wv)))) + (W64 ((W64 (vr.X.b - vr.X.a)) * (W64 (vr.Y.b - vr.Y.a)))))) - 1)) (W64 ((W64 (vr.X.b - vr.X.a)) * (W64 (vr.Y.b - vr.Y.a)))) hd8 rfl rfl rfl rfl rfl ?_
   refine go_run' ttok 2 rfl ?_
   obtain ⟨l1, hv9, hz3⟩ := of_obind hz3
   refine go_appT encTworth_zone vlist1 ([(⟨(⟨vat, (W64 (vat + e.Len))⟩ : Sp), (W64 (Int.tdiv (W64 ((W64 ((W64 (1000 * (W64 ((W64 ((W64 (vr.X.b - vr.X.a)) * (W64 (vr.Y.b - vr.Y.a)))) - wv)))) + (W64 ((W64 (vr.X.b - vr.X.a)) * (W64 (vr.Y.b - vr.Y.a)))))) - 1)) (W64 ((W64 (vr.X.b - vr.X.a)) * (W64 (vr.Y.b - vr.Y.a))))))⟩ : Tworth_zone)]) l1 hv9 (fun _ => rfl) (by first | rfl | (simp [setI]; done) | omega | (dsimp only; omega) | (simp [setI]; omega)) (by first | rfl | (simp [setI]; done) | omega | (dsimp only; omega) | (simp [setI]; omega)) ttok rfl rfl rfl rfl rfl rfl rfl rfl rfl rfl rfl rfl rfl rfl rfl rfl rfl ?_
   refine go_run' ttok 1 rfl ?_
   refine go_nil (fun _ => by kernel_rfl) ?_
   refine then_norm (awp_go hmix (go_run' ttok 3 rfl (go_nil nd (block_norm (then_norm (awp_go hmix (go_run' ttok 2 rfl (go_nil nd ?_))))))))
   have e10 := of_some hz3
   subst e10
   refine then_norm ⟨rfl, (l1, (W64 (vat + e.Len)), (W64 (vv + 1))), [(6, some 56), (3, some 3)], ⟨rfl, rfl, rfl, rfl, rfl, ⟨⟨rfl, rfl, (by first | rfl | (simp [setI]; done) | omega | (dsimp only; omega) | (simp [setI]; omega))⟩, wkP_id _ rfl, wkP_id _ rfl, trivial⟩, ⟨⟨_, rfl, rfl, rfl, wkX_map (enc := encTworth_zone) l1 (fun _ => rfl)⟩, trivial⟩⟩, hk4⟩
  ·replace hz3 := of_bif_f hz3 c5
   refine awp_exit (then_exit ?_)
   obtain ⟨t, hn11, hq⟩ := of_mapr' hz3
   subst hq
   have hq : t = _ := hk4
   subst hq
   refine then_exit (block_here ?_)
   have e12 := of_some hn11
   refine then_norm ⟨rfl, vlist1, [(6, some 6)], ⟨rfl, rfl, rfl, rfl, rfl, ⟨⟨rfl, rfl, (by first | rfl | (simp [setI]; done) | omega | (dsimp only; omega) | (simp [setI]; omega))⟩, trivial⟩, ⟨⟨_, rfl, rfl, rfl, wkX_map (enc := encTworth_zone) vlist1 (fun _ => rfl)⟩, trivial⟩⟩, e12⟩
 ·intro vlist hw2
  subst hw2
  refine awp_seq (awp_go hmix (go_run' ttok 2 rfl (go_nil nd (then_norm ?_))))
  refine awp_freezeM [] [] [(6, some ⟨200, 3, vlist.map encTworth_zone⟩)] [] [(4, (encL encTworth_zone vlist))] [] rfl rfl rfl rfl rfl ⟨rfl, by decide, trivial⟩ ⟨(wkP_lend rfl (by first | rfl | (simp [setI]; done) | omega | (dsimp only; omega) | (simp [setI]; omega)) (fun _ => rfl)), trivial⟩ trivial ?_
  refine awp_ret ?_
  have e13 := of_some h
  subst e13
  refine ret_ret ?_
  refine fin0 ttok rfl rfl ?_
  exact (wkP_refl _ rfl)
noncomputable def worth_lacks_cs1 (N : Nat) (l : (List TSlice)) (vr : TRect) (vlist1 : (List Tworth_zone)) (vat : Int) (vv : Int) : Option (((List Tworth_zone) × Int × Int) ⊕ (List Tworth_zone)) :=
 (bif (decide (vv < ((l.length : Nat) : Int))) then (Option.bind (getI l vv) (fun e => (Option.bind ((section_Within_c N) e.Sec vr) (fun wv => (bif ((W64 ((W64 (vr.X.b - vr.X.a)) * (W64 (vr.Y.b - vr.Y.a)))) != 0) then (Option.bind (appO 24 vlist1 ([(⟨(⟨vat, (W64 (vat + e.Len))⟩ : Sp), (W64 (Int.tdiv (W64 ((W64 ((W64 (1000 * (W64 ((W64 ((W64 (vr.X.b - vr.X.a)) * (W64 (vr.Y.b - vr.Y.a)))) - wv)))) + (W64 ((W64 (vr.X.b - vr.X.a)) * (W64 (vr.Y.b - vr.Y.a)))))) - 1)) (W64 ((W64 (vr.X.b - vr.X.a)) * (W64 (vr.Y.b - vr.Y.a))))))⟩ : Tworth_zone)])) (fun l1 => some (Sum.inl (l1, (W64 (vat + e.Len)), (W64 (vv + 1)))))) else none))))) else some (Sum.inr vlist1))
theorem worth_lacks_cs1_le (N : Nat) (l : (List TSlice)) (vr : TRect) (vlist1 : (List Tworth_zone)) (vat : Int) (vv : Int) : OLe (worth_lacks_cs1 N l vr vlist1 vat vv) (worth_lacks_s1 l vr vlist1 vat vv) := by
 unfold worth_lacks_cs1 worth_lacks_s1
 repeat' (first | exact ole_rfl | exact section_Within_le _ _ _ | refine ole_bif ?_ ?_ | refine ole_bind ?_ (fun _ => ?_) | refine ole_let (fun _ => ?_) | refine ole_map ?_ | refine ole_elim (fun _ => ?_) (fun _ => ?_) | refine ole_loop (fun _ => ?_))
noncomputable def worth_lacks_c (N : Nat) (l : (List TSlice)) (vr : TRect) : Option (List Tworth_zone) :=
 (Option.bind ((iterX N (fun q => worth_lacks_cs1 N l vr q.1 q.2.1 q.2.2) ([], 0, 0)) : Option (List Tworth_zone)) (fun vlist => some vlist))
theorem worth_lacks_le (N : Nat) (l : (List TSlice)) (vr : TRect) : OLe (worth_lacks_c N l vr) (worth_lacks_g l vr) := by
 unfold worth_lacks_c worth_lacks_g
 repeat' (first | exact ole_rfl | exact section_Within_le _ _ _ | exact worth_lacks_cs1_le _ _ _ _ _ _ | refine ole_bif ?_ ?_ | refine ole_bind ?_ (fun _ => ?_) | refine ole_let (fun _ => ?_) | refine ole_map ?_ | refine ole_elim (fun _ => ?_) (fun _ => ?_) | refine ole_loop (fun _ => ?_))
end Go.Proofs.YtpoehckffpbfiaaGreat
