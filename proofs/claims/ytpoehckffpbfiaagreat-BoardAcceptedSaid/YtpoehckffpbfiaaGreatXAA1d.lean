/- A1d: what functions of the program compute (written by mod.py). -/
import Derived.Test.YtpoehckffpbfiaaGreatXAA1c
import Derived.KernelRfl
namespace Go.Proofs.YtpoehckffpbfiaaGreat
open Go Go.Ab
set_option linter.unusedSimpArgs false
set_option linter.unusedVariables false
set_option linter.unusedSectionVars false
set_option maxRecDepth 20000
set_option maxHeartbeats 1000000
noncomputable def worth_worst_s1 (l : (List Tworth_zone)) (vz : Sp) (most1 : Int) (vv : Int) : Option ((Int × Int) ⊕ Int) :=
 (bif (decide (vv < ((l.length : Nat) : Int))) then (Option.bind (getI l vv) (fun e => (bif (decide (e.z_.a < vz.b)) then (bif (decide (vz.a < e.z_.b)) then some (Sum.inl ((max most1 e.lack), (W64 (vv + 1)))) else some (Sum.inl (most1, (W64 (vv + 1))))) else some (Sum.inl (most1, (W64 (vv + 1))))))) else some (Sum.inr most1))
noncomputable def worth_worst_g (l : (List Tworth_zone)) (vz : Sp) : Option Int :=
 (Option.bind ((loopO (fun q => worth_worst_s1 l vz q.1 q.2) (0, 0)) : Option Int) (fun most => some most))
theorem worth_worst_w (l : (List Tworth_zone)) (vz : Sp) (r : Int) (h : worth_worst_g l vz = some r) : Holds Tryz.prog 143 [((encL encTworth_zone) l), (encSp vz)] [] (I r) [] := by
 unfold worth_worst_g at h
 refine holds_fn Tryz.func143 rfl Tryz.ntmps143 rfl rfl rfl (fun lim => ?_)
 refine awp_seq (awp_go hmix (go_run' ttok 2 rfl (go_nil nd (then_norm (awp_seq (awp_go hmix (go_run' ttok 1 rfl (go_nil nd (then_norm ?_)))))))))
 obtain ⟨y, hx1, h⟩ := of_obind h
 refine awp_seqJ (X := Int) [] [] (fun w => [(5, (I w))]) (fun w => []) (fun w => w = y) rfl rfl ?_ ?_
 ·skip
  refine awp_seq (awp_go hmix (go_run' ttok 1 rfl ?_))
  refine go_lenT encTworth_zone l ttok rfl rfl rfl rfl rfl rfl ?_
  refine go_run' ttok 1 rfl (go_nil nd (then_norm (awp_block ?_)))
  refine awp_loopD (X := (Int × Int)) (Y := Int) [3, 8, 9] [3] (fun q => [(5, (I q.1)), (10, (I q.2))]) (fun q => []) (fun q => worth_worst_s1 l vz q.1 q.2) (0, 0) [(3, some 3)] hx1 ⟨rfl, rfl, rfl, rfl, rfl, ⟨wkP_id _ rfl, wkP_id _ rfl, trivial⟩, trivial⟩ (fun x vR vz1 hz3 hk4 => ?_)
  obtain ⟨most1, vv⟩ := x
  change worth_worst_s1 l vz most1 vv = _ at hz3
  unfold worth_worst_s1 at hz3
  refine awp_seq (awp_go hmix (go_run' ttok 1 rfl (go_nil nd (then_norm (awp_seq ?_)))))
  refine awp_cond (b := (decide (vv < ((l.length : Nat) : Int)))) rfl (fun c5 => ?_) (fun c5 => ?_)
  ·replace hz3 := of_bif_t hz3 c5
   refine awp_skip (then_norm (awp_seq (awp_block (awp_seq (awp_go hmix ?_)))))
   obtain ⟨e, hv6, hz3⟩ := of_obind hz3
   refine go_indexT encTworth_zone l vv e hv6 ttok rfl rfl rfl rfl rfl rfl rfl rfl rfl ?_
   refine go_run' ttok 3 rfl (go_nil nd (then_norm (awp_seq (awp_go hmix (go_run' ttok 7 rfl ?_)))))
   refine go_gcase rfl rfl rfl (fun g7 => ?_) (fun g7 => ?_)
   ·rw [g7]
    replace hz3 := of_bif_t hz3 g7
    refine go_run' ttok 7 rfl (go_nil nd (then_norm ?_))
    refine awp_cond (b := (decide (vz.a < e.z_.b))) rfl (fun c8 => ?_) (fun c8 => ?_)
    ·replace hz3 := of_bif_t hz3 c8
     refine awp_go hmix (go_run' ttok 5 rfl (go_nil nd (block_norm (then_norm (awp_go hmix (go_run' ttok 2 rfl (go_nil nd ?_)))))))
     have e9 := of_some hz3
     subst e9
     refine then_norm ⟨rfl, ((max most1 e.lack), (W64 (vv + 1))), [(3, some 3)], ⟨rfl, rfl, rfl, rfl, rfl, ⟨wkP_id _ rfl, wkP_id _ rfl, trivial⟩, trivial⟩, hk4⟩
    ·replace hz3 := of_bif_f hz3 c8
     refine awp_skip (block_norm (then_norm (awp_go hmix (go_run' ttok 2 rfl (go_nil nd ?_)))))
     have e10 := of_some hz3
     subst e10
     refine then_norm ⟨rfl, (most1, (W64 (vv + 1))), [(3, some 3)], ⟨rfl, rfl, rfl, rfl, rfl, ⟨wkP_id _ rfl, wkP_id _ rfl, trivial⟩, trivial⟩, hk4⟩
   ·rw [g7]
    replace hz3 := of_bif_f hz3 g7
    refine go_run' ttok 7 rfl (go_nil nd (then_norm ?_))
    refine awp_cond rfl (fun h => by cases h) (fun tt0 => ?_)
    clear tt0
    refine awp_skip (block_norm (then_norm (awp_go hmix (go_run' ttok 2 rfl (go_nil nd ?_)))))
    have e11 := of_some hz3
    subst e11
    refine then_norm ⟨rfl, (most1, (W64 (vv + 1))), [(3, some 3)], ⟨rfl, rfl, rfl, rfl, rfl, ⟨wkP_id _ rfl, wkP_id _ rfl, trivial⟩, trivial⟩, hk4⟩
  ·replace hz3 := of_bif_f hz3 c5
   refine awp_exit (then_exit ?_)
   obtain ⟨t, hn12, hq⟩ := of_mapr' hz3
   subst hq
   have hq : t = _ := hk4
   subst hq
   refine then_exit (block_here ?_)
   have e13 := of_some hn12
   refine then_norm ⟨rfl, most1, [], ⟨rfl, rfl, rfl, rfl, rfl, ⟨wkP_id _ rfl, trivial⟩, trivial⟩, e13⟩
 ·intro most hw2
  subst hw2
  refine awp_seq (awp_go hmix (go_run' ttok 2 rfl (go_nil nd (then_norm (awp_ret ?_)))))
  have e14 := of_some h
  subst e14
  refine ret_ret ?_
  refine fin0 ttok rfl rfl ?_
  exact (wkP_refl _ rfl)
noncomputable def worth_worst_cs1 (N : Nat) (l : (List Tworth_zone)) (vz : Sp) (most1 : Int) (vv : Int) : Option ((Int × Int) ⊕ Int) :=
 (bif (decide (vv < ((l.length : Nat) : Int))) then (Option.bind (getI l vv) (fun e => (bif (decide (e.z_.a < vz.b)) then (bif (decide (vz.a < e.z_.b)) then some (Sum.inl ((max most1 e.lack), (W64 (vv + 1)))) else some (Sum.inl (most1, (W64 (vv + 1))))) else some (Sum.inl (most1, (W64 (vv + 1))))))) else some (Sum.inr most1))
theorem worth_worst_cs1_le (N : Nat) (l : (List Tworth_zone)) (vz : Sp) (most1 : Int) (vv : Int) : OLe (worth_worst_cs1 N l vz most1 vv) (worth_worst_s1 l vz most1 vv) := by
 unfold worth_worst_cs1 worth_worst_s1
 repeat' (first | exact ole_rfl | refine ole_bif ?_ ?_ | refine ole_bind ?_ (fun _ => ?_) | refine ole_let (fun _ => ?_) | refine ole_map ?_ | refine ole_elim (fun _ => ?_) (fun _ => ?_) | refine ole_loop (fun _ => ?_))
noncomputable def worth_worst_c (N : Nat) (l : (List Tworth_zone)) (vz : Sp) : Option Int :=
 (Option.bind ((iterX N (fun q => worth_worst_cs1 N l vz q.1 q.2) (0, 0)) : Option Int) (fun most => some most))
theorem worth_worst_le (N : Nat) (l : (List Tworth_zone)) (vz : Sp) : OLe (worth_worst_c N l vz) (worth_worst_g l vz) := by
 unfold worth_worst_c worth_worst_g
 repeat' (first | exact ole_rfl | exact worth_worst_cs1_le _ _ _ _ _ | refine ole_bif ?_ ?_ | refine ole_bind ?_ (fun _ => ?_) | refine ole_let (fun _ => ?_) | refine ole_map ?_ | refine ole_elim (fun _ => ?_) (fun _ => ?_) | refine ole_loop (fun _ => ?_))
noncomputable def worth_Wane_g (l : (List TSlice)) (b : Bx) : Option Int :=
 (Option.bind (solid_Check_g l) (fun cv => (bif (cv != 0) then some 1000 else (Option.bind (worth_isRect_g (⟨b.x, b.y⟩ : TRect)) (fun iv => (bif (!iv) then some 1000 else (Option.bind (solid_Length_g l) (fun lv => (bif (!(worth_isWithin_g b.z lv)) then some 1000 else (Option.bind (worth_lacks_g l (⟨b.x, b.y⟩ : TRect)) (fun lv1 => (Option.bind (worth_worst_g lv1 b.z) (fun wv => some wv)))))))))))))
theorem worth_Wane_w (l : (List TSlice)) (b : Bx) (r : Int) (h : worth_Wane_g l b = some r) : Holds Tryz.prog 90 [((encL encTSlice) l), (encBx b)] [] (I r) [] := by
 unfold worth_Wane_g at h
 refine holds_fn Tryz.func90 rfl Tryz.ntmps90 rfl rfl rfl (fun lim => ?_)
 refine awp_seq (awp_go hmix (go_run' ttok 2 rfl (go_nil nd (then_norm (awp_seq (awp_go hmix (go_run' ttok 7 rfl (go_nil nd (then_norm (awp_seq (awp_seq (awp_go hmix (go_run' ttok 1 rfl ?_)))))))))))))
 obtain ⟨cv, hv1, h⟩ := of_obind h
 refine go_call fn139 (solid_Check_w l cv hv1) rfl rfl rfl rfl rfl rfl rfl ?_
 refine go_run' ttok 2 rfl ?_
 refine go_gcase rfl rfl rfl (fun g2 => ?_) (fun g2 => ?_)
 ·rw [g2]
  replace h := of_bif_t h g2
  refine go_run' ttok 12 rfl ?_
  refine go_nil (fun _ => by kernel_rfl) ?_
  refine then_norm ?_
  refine awp_cond rfl (fun tt0 => ?_) (fun h => by cases h)
  clear tt0
  refine awp_seq (awp_go hmix (go_run' ttok 1 rfl (go_nil nd (then_norm (awp_ret (then_ret ?_))))))
  have e3 := of_some h
  subst e3
  refine ret_ret ?_
  refine fin0 ttok rfl rfl ?_
  exact (wkP_refl _ rfl)
 ·rw [g2]
  replace h := of_bif_f h g2
  refine go_run' ttok 1 rfl ?_
  obtain ⟨iv, hv4, h⟩ := of_obind h
  refine go_call fn140 (worth_isRect_w (⟨b.x, b.y⟩ : TRect) iv hv4) rfl rfl rfl rfl rfl rfl rfl ?_
  refine go_run' ttok 3 rfl ?_
  refine go_gcase rfl rfl rfl (fun g5 => ?_) (fun g5 => ?_)
  ·rw [g5]
   replace h := of_bif_t h g5
   refine go_run' ttok 7 rfl ?_
   refine go_nil (fun _ => by kernel_rfl) ?_
   refine then_norm ?_
   refine awp_cond rfl (fun tt0 => ?_) (fun h => by cases h)
   clear tt0
   refine awp_seq (awp_go hmix (go_run' ttok 1 rfl (go_nil nd (then_norm (awp_ret (then_ret ?_))))))
   have e6 := of_some h
   subst e6
   refine ret_ret ?_
   refine fin0 ttok rfl rfl ?_
   exact (wkP_refl _ rfl)
  ·rw [g5]
   replace h := of_bif_f h g5
   refine go_run' ttok 3 rfl ?_
   obtain ⟨lv, hv7, h⟩ := of_obind h
   refine go_call fn142 (solid_Length_w l lv hv7) rfl rfl rfl rfl rfl rfl rfl ?_
   refine go_call fn141 (worth_isWithin_w b.z lv _ rfl) rfl rfl rfl rfl rfl rfl rfl ?_
   refine go_run' ttok 2 rfl ?_
   refine go_nil (fun _ => by kernel_rfl) ?_
   refine then_norm ?_
   refine awp_cond (b := (!(worth_isWithin_g b.z lv))) rfl (fun c8 => ?_) (fun c8 => ?_)
   ·replace h := of_bif_t h c8
    refine awp_seq (awp_go hmix (go_run' ttok 1 rfl (go_nil nd (then_norm (awp_ret (then_ret ?_))))))
    have e9 := of_some h
    subst e9
    refine ret_ret ?_
    refine fin0 ttok rfl rfl ?_
    exact (wkP_refl _ rfl)
   ·replace h := of_bif_f h c8
    refine awp_skip (then_norm (awp_seq (awp_go hmix (go_run' ttok 2 rfl ?_))))
    obtain ⟨lv1, hv10, h⟩ := of_obind h
    refine go_call fn144 (worth_lacks_w l (⟨b.x, b.y⟩ : TRect) lv1 hv10) rfl rfl rfl rfl rfl rfl rfl ?_
    refine go_run' ttok 2 rfl ?_
    obtain ⟨wv, hv11, h⟩ := of_obind h
    refine go_call fn143 (worth_worst_w lv1 b.z wv hv11) rfl rfl rfl rfl rfl rfl rfl ?_
    refine go_run' ttok 1 rfl ?_
    refine go_nil (fun _ => by kernel_rfl) ?_
    refine then_norm (awp_ret ?_)
    have e12 := of_some h
    subst e12
    refine ret_ret ?_
    refine fin0 ttok rfl rfl ?_
    exact (wkP_refl _ rfl)
noncomputable def worth_Wane_c (N : Nat) (l : (List TSlice)) (b : Bx) : Option Int :=
 (Option.bind ((solid_Check_c N) l) (fun cv => (bif (cv != 0) then some 1000 else (Option.bind ((worth_isRect_c N) (⟨b.x, b.y⟩ : TRect)) (fun iv => (bif (!iv) then some 1000 else (Option.bind ((solid_Length_c N) l) (fun lv => (bif (!(worth_isWithin_g b.z lv)) then some 1000 else (Option.bind ((worth_lacks_c N) l (⟨b.x, b.y⟩ : TRect)) (fun lv1 => (Option.bind ((worth_worst_c N) lv1 b.z) (fun wv => some wv)))))))))))))
theorem worth_Wane_le (N : Nat) (l : (List TSlice)) (b : Bx) : OLe (worth_Wane_c N l b) (worth_Wane_g l b) := by
 unfold worth_Wane_c worth_Wane_g
 repeat' (first | exact ole_rfl | exact solid_Check_le _ _ | exact worth_isRect_le _ _ | exact solid_Length_le _ _ | exact worth_lacks_le _ _ _ | exact worth_worst_le _ _ _ | refine ole_bif ?_ ?_ | refine ole_bind ?_ (fun _ => ?_) | refine ole_let (fun _ => ?_) | refine ole_map ?_ | refine ole_elim (fun _ => ?_) (fun _ => ?_) | refine ole_loop (fun _ => ?_))
noncomputable def board_New_g (vid : ByteArray) (vlog : ByteArray) (sp : TSpecies) (l : (List TSlice)) (d : (List Df)) (product : Int) (b : Bx) : Option TBoard :=
 (Option.bind (solid_Within_g l b) (fun wv => (Option.bind (defect_Clip_g d b) (fun cv => (Option.bind (worth_Wane_g l b) (fun wv1 => some (⟨vid, vlog, sp.Name, product, b, wv, cv, wv1, (⟨sp.Green, sp.Green, 0⟩ : TCell), false, 0⟩ : TBoard)))))))
theorem board_New_w (vid : ByteArray) (vlog : ByteArray) (sp : TSpecies) (l : (List TSlice)) (d : (List Df)) (product : Int) (b : Bx) (r : TBoard) (h : board_New_g vid vlog sp l d product b = some r) : Holds Tryz.prog 42 [(S vid), (S vlog), (encTSpecies sp), ((encL encTSlice) l), ((encL encDf) d), (I product), (encBx b)] [] (encTBoard r) [] := by
 unfold board_New_g at h
 refine holds_fn Tryz.func42 rfl Tryz.ntmps42 rfl rfl rfl (fun lim => ?_)
 refine awp_seq (awp_go hmix (go_run' ttok 3 rfl (go_nil nd (then_norm (awp_seq (awp_go hmix (go_run' ttok 8 rfl ?_)))))))
 obtain ⟨wv, hv1, h⟩ := of_obind h
 refine go_call fn88 (solid_Within_w l b wv hv1) rfl rfl rfl rfl rfl rfl rfl ?_
 refine go_run' ttok 2 rfl ?_
 obtain ⟨cv, hv2, h⟩ := of_obind h
 refine go_call fn89 (defect_Clip_w d b cv hv2) rfl rfl rfl rfl rfl rfl rfl ?_
 refine go_run' ttok 2 rfl ?_
 obtain ⟨wv1, hv3, h⟩ := of_obind h
 refine go_call fn90 (worth_Wane_w l b wv1 hv3) rfl rfl rfl rfl rfl rfl rfl ?_
 refine go_run' ttok 7 rfl ?_
 refine go_nil (fun _ => by kernel_rfl) ?_
 refine then_norm (awp_ret ?_)
 have e4 := of_some h
 subst e4
 refine ret_ret ?_
 refine fin0 ttok rfl rfl ?_
 exact (wkP_refl _ rfl)
noncomputable def board_New_c (N : Nat) (vid : ByteArray) (vlog : ByteArray) (sp : TSpecies) (l : (List TSlice)) (d : (List Df)) (product : Int) (b : Bx) : Option TBoard :=
 (Option.bind ((solid_Within_c N) l b) (fun wv => (Option.bind ((defect_Clip_c N) d b) (fun cv => (Option.bind ((worth_Wane_c N) l b) (fun wv1 => some (⟨vid, vlog, sp.Name, product, b, wv, cv, wv1, (⟨sp.Green, sp.Green, 0⟩ : TCell), false, 0⟩ : TBoard)))))))
theorem board_New_le (N : Nat) (vid : ByteArray) (vlog : ByteArray) (sp : TSpecies) (l : (List TSlice)) (d : (List Df)) (product : Int) (b : Bx) : OLe (board_New_c N vid vlog sp l d product b) (board_New_g vid vlog sp l d product b) := by
 unfold board_New_c board_New_g
 repeat' (first | exact ole_rfl | exact solid_Within_le _ _ _ | exact defect_Clip_le _ _ _ | exact worth_Wane_le _ _ _ | refine ole_bif ?_ ?_ | refine ole_bind ?_ (fun _ => ?_) | refine ole_let (fun _ => ?_) | refine ole_map ?_ | refine ole_elim (fun _ => ?_) (fun _ => ?_) | refine ole_loop (fun _ => ?_))
noncomputable def board_list__put_L_g (l_numbers : (List Int)) (n : (List Int)) : Option (List Int) :=
 (Option.bind (appO 8 l_numbers n) (fun l => some l))
theorem board_list__put_L_w (l_numbers : (List Int)) (n : (List Int)) (r : (List Int)) (h : board_list__put_L_g l_numbers n = some r) : Holds Tryz.prog 51 [(.ref 1000 0 0), ((encL I) n)] [(1000, some ⟨86, 1, [(.agg [(.arr 1100 0 l_numbers.length)])]⟩), (1100, some ⟨3, 1, l_numbers.map I⟩)] (.tup []) [(1000, some ⟨86, 1, [(.agg [(.arr 810 0 r.length)])]⟩), (810, some ⟨3, 1, r.map I⟩)] := by
 unfold board_list__put_L_g at h
 refine holds_fn Tryz.func51 rfl Tryz.ntmps51 rfl rfl rfl (fun lim => ?_)
 refine awp_go hmix (go_run' ttok 2 rfl ?_)
 refine go_step rfl (as_nilCheck rfl rfl) rfl rfl rfl ?_
 refine go_run' ttok 3 rfl ?_
 obtain ⟨l, hv1, h⟩ := of_obind h
 refine go_appTS I l_numbers n l hv1 (fun _ => rfl) (fun _ => rfl) (by first | rfl | (simp [setI]; done) | omega | (dsimp only; omega) | (simp [setI]; omega)) ttok rfl rfl rfl rfl rfl rfl rfl rfl rfl rfl rfl rfl rfl rfl rfl ?_
 refine go_step rfl (as_nilCheck rfl rfl) rfl rfl rfl ?_
 refine go_run' ttok 2 rfl (go_nil nd ?_)
 have e2 := of_some h
 subst e2
 refine ret_norm ?_
 exact finB [(1000, some 1000), (810, some 10)] ttok rfl rfl rfl rfl (wkP_refl _ rfl) ⟨⟨_, rfl, rfl, rfl, .inr ⟨⟨⟨⟨rfl, rfl, (by first | rfl | (simp [setI]; done) | omega | (dsimp only; omega) | (simp [setI]; omega))⟩, trivial⟩, trivial⟩, ⟨rfl, trivial⟩⟩⟩, ⟨_, rfl, rfl, rfl, wkX_map (enc := I) l (fun _ => rfl)⟩, trivial⟩
noncomputable def board_list__put_L_c (N : Nat) (l_numbers : (List Int)) (n : (List Int)) : Option (List Int) :=
 (Option.bind (appO 8 l_numbers n) (fun l => some l))
theorem board_list__put_L_le (N : Nat) (l_numbers : (List Int)) (n : (List Int)) : OLe (board_list__put_L_c N l_numbers n) (board_list__put_L_g l_numbers n) := by
 unfold board_list__put_L_c board_list__put_L_g
 repeat' (first | exact ole_rfl | refine ole_bif ?_ ?_ | refine ole_bind ?_ (fun _ => ?_) | refine ole_let (fun _ => ?_) | refine ole_map ?_ | refine ole_elim (fun _ => ?_) (fun _ => ?_) | refine ole_loop (fun _ => ?_))
noncomputable def board_putBox_L_g (put_numbers : (List Int)) (b : Bx) : Option (List Int) :=
 (Option.bind (board_list__put_L_g put_numbers ([b.x.a, b.x.b, b.y.a, b.y.b, b.z.a, b.z.b])) (fun pv => some pv))
theorem board_putBox_L_w (put_numbers : (List Int)) (b : Bx) (r : (List Int)) (h : board_putBox_L_g put_numbers b = some r) : Holds Tryz.prog 102 [(.clo 51 [(.ref 1000 0 0)] []), (encBx b)] [(1000, some ⟨86, 1, [(.agg [(.arr 1100 0 put_numbers.length)])]⟩), (1100, some ⟨3, 1, put_numbers.map I⟩)] (.tup []) [(1000, some ⟨86, 1, [(.agg [(.arr 810 0 r.length)])]⟩), (810, some ⟨3, 1, r.map I⟩)] := by
 unfold board_putBox_L_g at h
 refine holds_fn Tryz.func102 rfl Tryz.ntmps102 rfl rfl rfl (fun lim => ?_)
 refine awp_seq (awp_go hmix (go_run' ttok 1 rfl (go_nil nd (then_norm (awp_go hmix (go_run' ttok 20 rfl ?_))))))
 obtain ⟨pv, hv1, h⟩ := of_obind h
 refine go_callM (.tup []) [(23, some ⟨3, 1, ([b.x.a, b.x.b, b.y.a, b.y.b, b.z.a, b.z.b]).map I⟩)] [(1000, some ⟨86, 1, [(.agg [(.arr 600 0 pv.length)])]⟩), (600, some ⟨3, 1, pv.map I⟩)] [(1000, some 1000), (1100, some 1100)] [(1000, some 1000), (600, some 810)] fn51 (board_list__put_L_w put_numbers ([b.x.a, b.x.b, b.y.a, b.y.b, b.z.a, b.z.b]) pv hv1) rfl rfl rfl rfl rfl ⟨rfl, by decide, trivial⟩ ⟨⟨rfl, rfl, rfl⟩, (wkP_lend rfl (by first | rfl | (simp [setI]; done) | omega | (dsimp only; omega) | (simp [setI]; omega)) (fun _ => rfl)), trivial⟩ rfl rfl ⟨⟨_, rfl, rfl, rfl, .inr ⟨⟨⟨⟨rfl, rfl, (by first | rfl | (simp [setI]; done) | omega | (dsimp only; omega) | (simp [setI]; omega))⟩, trivial⟩, trivial⟩, ⟨rfl, trivial⟩⟩⟩, ⟨_, rfl, rfl, rfl, wkX_map (enc := I) put_numbers (fun _ => rfl)⟩, trivial⟩ rfl rfl ⟨⟨_, rfl, rfl, rfl, .inr ⟨⟨⟨⟨rfl, rfl, (by first | rfl | (simp [setI]; done) | omega | (dsimp only; omega) | (simp [setI]; omega))⟩, trivial⟩, trivial⟩, ⟨rfl, trivial⟩⟩⟩, ⟨_, rfl, rfl, rfl, wkX_map (enc := I) pv (fun _ => rfl)⟩, trivial⟩ (wkP_refl _ rfl) rfl (fun _ => ⟨rfl, ⟨nsl_one rfl, nsl_map (fun _ => rfl) _, trivial⟩⟩) rfl rfl rfl ?_
 refine go_nil nd ?_
 have e2 := of_some h
 subst e2
 refine ret_norm ?_
 exact finB [(1000, some 1000), (810, some 600)] ttok rfl rfl rfl rfl (wkP_refl _ rfl) ⟨⟨_, rfl, rfl, rfl, .inr ⟨⟨⟨⟨rfl, rfl, (by first | rfl | (simp [setI]; done) | omega | (dsimp only; omega) | (simp [setI]; omega))⟩, trivial⟩, trivial⟩, ⟨rfl, trivial⟩⟩⟩, ⟨_, rfl, rfl, rfl, wkX_map (enc := I) pv (fun _ => rfl)⟩, trivial⟩
noncomputable def board_putBox_L_c (N : Nat) (put_numbers : (List Int)) (b : Bx) : Option (List Int) :=
 (Option.bind ((board_list__put_L_c N) put_numbers ([b.x.a, b.x.b, b.y.a, b.y.b, b.z.a, b.z.b])) (fun pv => some pv))
theorem board_putBox_L_le (N : Nat) (put_numbers : (List Int)) (b : Bx) : OLe (board_putBox_L_c N put_numbers b) (board_putBox_L_g put_numbers b) := by
 unfold board_putBox_L_c board_putBox_L_g
 repeat' (first | exact ole_rfl | exact board_list__put_L_le _ _ _ | refine ole_bif ?_ ?_ | refine ole_bind ?_ (fun _ => ?_) | refine ole_let (fun _ => ?_) | refine ole_map ?_ | refine ole_elim (fun _ => ?_) (fun _ => ?_) | refine ole_loop (fun _ => ?_))
noncomputable def board_putBoard_L_g (put_numbers : (List Int)) (b : TBoard) : Option (List Int) :=
 (Option.bind (board_list__put_L_g put_numbers ([b.Product])) (fun pv => (Option.bind (board_putBox_L_g pv b.Box) (fun pv1 => (Option.bind (board_list__put_L_g pv1 ([b.Volume, b.Wane, b.Cell.Surf, b.Cell.Core, b.Cell.Stress])) (fun pv2 => (bif b.Dried then (Option.bind (board_list__put_L_g pv2 ([1])) (fun pv3 => (Option.bind (board_list__put_L_g pv3 ([b.Grade])) (fun pv4 => some pv4)))) else (Option.bind (board_list__put_L_g pv2 ([0])) (fun pv5 => (Option.bind (board_list__put_L_g pv5 ([b.Grade])) (fun pv6 => some pv6)))))))))))
theorem board_putBoard_L_w (put_numbers : (List Int)) (b : TBoard) (r : (List Int)) (h : board_putBoard_L_g put_numbers b = some r) : Holds Tryz.prog 50 [(.clo 51 [(.ref 1000 0 0)] []), (encTBoard b)] [(1000, some ⟨86, 1, [(.agg [(.arr 1100 0 put_numbers.length)])]⟩), (1100, some ⟨3, 1, put_numbers.map I⟩)] (.tup []) [(1000, some ⟨86, 1, [(.agg [(.arr 810 0 r.length)])]⟩), (810, some ⟨3, 1, r.map I⟩)] := by
 unfold board_putBoard_L_g at h
 refine holds_fn Tryz.func50 rfl Tryz.ntmps50 rfl rfl rfl (fun lim => ?_)
 refine awp_seq (awp_go hmix (go_run' ttok 1 rfl (go_nil nd (then_norm (awp_seq (awp_go hmix (go_run' ttok 4 rfl ?_)))))))
 obtain ⟨pv, hv1, h⟩ := of_obind h
 refine go_callM (.tup []) [(7, some ⟨3, 1, ([b.Product]).map I⟩)] [(1000, some ⟨86, 1, [(.agg [(.arr 600 0 pv.length)])]⟩), (600, some ⟨3, 1, pv.map I⟩)] [(1000, some 1000), (1100, some 1100)] [(1000, some 1000), (600, some 810)] fn51 (board_list__put_L_w put_numbers ([b.Product]) pv hv1) rfl rfl rfl rfl rfl ⟨rfl, by decide, trivial⟩ ⟨⟨rfl, rfl, rfl⟩, (wkP_lend rfl (by first | rfl | (simp [setI]; done) | omega | (dsimp only; omega) | (simp [setI]; omega)) (fun _ => rfl)), trivial⟩ rfl rfl ⟨⟨_, rfl, rfl, rfl, .inr ⟨⟨⟨⟨rfl, rfl, (by first | rfl | (simp [setI]; done) | omega | (dsimp only; omega) | (simp [setI]; omega))⟩, trivial⟩, trivial⟩, ⟨rfl, trivial⟩⟩⟩, ⟨_, rfl, rfl, rfl, wkX_map (enc := I) put_numbers (fun _ => rfl)⟩, trivial⟩ rfl rfl ⟨⟨_, rfl, rfl, rfl, .inr ⟨⟨⟨⟨rfl, rfl, (by first | rfl | (simp [setI]; done) | omega | (dsimp only; omega) | (simp [setI]; omega))⟩, trivial⟩, trivial⟩, ⟨rfl, trivial⟩⟩⟩, ⟨_, rfl, rfl, rfl, wkX_map (enc := I) pv (fun _ => rfl)⟩, trivial⟩ (wkP_refl _ rfl) rfl (fun _ => ⟨rfl, ⟨nsl_one rfl, nsl_map (fun _ => rfl) _, trivial⟩⟩) rfl rfl rfl ?_
 refine go_nil nd (then_norm (awp_seq (awp_go hmix (go_run' ttok 3 rfl ?_))))
 obtain ⟨pv1, hv2, h⟩ := of_obind h
 refine go_callM (.tup []) [] [(1000, some ⟨86, 1, [(.agg [(.arr 601 0 pv1.length)])]⟩), (601, some ⟨3, 1, pv1.map I⟩)] [(1000, some 1000), (1100, some 600)] [(1000, some 1000), (601, some 810)] fn102 (board_putBox_L_w pv b.Box pv1 hv2) rfl rfl rfl rfl rfl trivial ⟨⟨rfl, ⟨⟨rfl, rfl, rfl⟩, trivial⟩, trivial⟩, (wkP_refl _ rfl), trivial⟩ rfl rfl ⟨⟨_, rfl, rfl, rfl, .inr ⟨⟨⟨⟨rfl, rfl, (by first | rfl | (simp [setI]; done) | omega | (dsimp only; omega) | (simp [setI]; omega))⟩, trivial⟩, trivial⟩, ⟨rfl, trivial⟩⟩⟩, ⟨_, rfl, rfl, rfl, wkX_map (enc := I) pv (fun _ => rfl)⟩, trivial⟩ rfl rfl ⟨⟨_, rfl, rfl, rfl, .inr ⟨⟨⟨⟨rfl, rfl, (by first | rfl | (simp [setI]; done) | omega | (dsimp only; omega) | (simp [setI]; omega))⟩, trivial⟩, trivial⟩, ⟨rfl, trivial⟩⟩⟩, ⟨_, rfl, rfl, rfl, wkX_map (enc := I) pv1 (fun _ => rfl)⟩, trivial⟩ (wkP_refl _ rfl) rfl (fun h => absurd rfl h) rfl rfl rfl ?_
 refine go_nil nd (then_norm (awp_seq (awp_go hmix (go_run' ttok 15 rfl ?_))))
 obtain ⟨pv2, hv3, h⟩ := of_obind h
 refine go_callM (.tup []) [(27, some ⟨3, 1, ([b.Volume, b.Wane, b.Cell.Surf, b.Cell.Core, b.Cell.Stress]).map I⟩)] [(1000, some ⟨86, 1, [(.agg [(.arr 602 0 pv2.length)])]⟩), (602, some ⟨3, 1, pv2.map I⟩)] [(1000, some 1000), (1100, some 601)] [(1000, some 1000), (602, some 810)] fn51 (board_list__put_L_w pv1 ([b.Volume, b.Wane, b.Cell.Surf, b.Cell.Core, b.Cell.Stress]) pv2 hv3) rfl rfl rfl rfl rfl ⟨rfl, by decide, trivial⟩ ⟨⟨rfl, rfl, rfl⟩, (wkP_lend rfl (by first | rfl | (simp [setI]; done) | omega | (dsimp only; omega) | (simp [setI]; omega)) (fun _ => rfl)), trivial⟩ rfl rfl ⟨⟨_, rfl, rfl, rfl, .inr ⟨⟨⟨⟨rfl, rfl, (by first | rfl | (simp [setI]; done) | omega | (dsimp only; omega) | (simp [setI]; omega))⟩, trivial⟩, trivial⟩, ⟨rfl, trivial⟩⟩⟩, ⟨_, rfl, rfl, rfl, wkX_map (enc := I) pv1 (fun _ => rfl)⟩, trivial⟩ rfl rfl ⟨⟨_, rfl, rfl, rfl, .inr ⟨⟨⟨⟨rfl, rfl, (by first | rfl | (simp [setI]; done) | omega | (dsimp only; omega) | (simp [setI]; omega))⟩, trivial⟩, trivial⟩, ⟨rfl, trivial⟩⟩⟩, ⟨_, rfl, rfl, rfl, wkX_map (enc := I) pv2 (fun _ => rfl)⟩, trivial⟩ (wkP_refl _ rfl) rfl (fun _ => ⟨rfl, ⟨nsl_one rfl, nsl_map (fun _ => rfl) _, trivial⟩⟩) rfl rfl rfl ?_
 refine go_nil nd (then_norm (awp_seq (awp_seq (awp_go hmix (go_run' ttok 2 rfl (go_nil nd (then_norm ?_)))))))
 refine awp_cond (b := b.Dried) rfl (fun c4 => ?_) (fun c4 => ?_)
 ·replace h := of_bif_t h c4
  refine awp_go hmix (go_run' ttok 2 rfl ?_)
  obtain ⟨pv3, hv5, h⟩ := of_obind h
  refine go_callM (.tup []) [(32, some ⟨3, 1, ([1]).map I⟩)] [(1000, some ⟨86, 1, [(.agg [(.arr 603 0 pv3.length)])]⟩), (603, some ⟨3, 1, pv3.map I⟩)] [(1000, some 1000), (1100, some 602)] [(1000, some 1000), (603, some 810)] fn51 (board_list__put_L_w pv2 ([1]) pv3 hv5) rfl rfl rfl rfl rfl ⟨rfl, by decide, trivial⟩ ⟨⟨rfl, rfl, rfl⟩, (wkP_lend rfl (by first | rfl | (simp [setI]; done) | omega | (dsimp only; omega) | (simp [setI]; omega)) (fun _ => rfl)), trivial⟩ rfl rfl ⟨⟨_, rfl, rfl, rfl, .inr ⟨⟨⟨⟨rfl, rfl, (by first | rfl | (simp [setI]; done) | omega | (dsimp only; omega) | (simp [setI]; omega))⟩, trivial⟩, trivial⟩, ⟨rfl, trivial⟩⟩⟩, ⟨_, rfl, rfl, rfl, wkX_map (enc := I) pv2 (fun _ => rfl)⟩, trivial⟩ rfl rfl ⟨⟨_, rfl, rfl, rfl, .inr ⟨⟨⟨⟨rfl, rfl, (by first | rfl | (simp [setI]; done) | omega | (dsimp only; omega) | (simp [setI]; omega))⟩, trivial⟩, trivial⟩, ⟨rfl, trivial⟩⟩⟩, ⟨_, rfl, rfl, rfl, wkX_map (enc := I) pv3 (fun _ => rfl)⟩, trivial⟩ (wkP_refl _ rfl) rfl (fun _ => ⟨rfl, ⟨nsl_one rfl, nsl_map (fun _ => rfl) _, trivial⟩⟩) rfl rfl rfl ?_
  refine go_nil nd (then_norm (awp_go hmix (go_run' ttok 4 rfl ?_)))
  obtain ⟨pv4, hv6, h⟩ := of_obind h
  refine go_callM (.tup []) [(40, some ⟨3, 1, ([b.Grade]).map I⟩)] [(1000, some ⟨86, 1, [(.agg [(.arr 604 0 pv4.length)])]⟩), (604, some ⟨3, 1, pv4.map I⟩)] [(1000, some 1000), (1100, some 603)] [(1000, some 1000), (604, some 810)] fn51 (board_list__put_L_w pv3 ([b.Grade]) pv4 hv6) rfl rfl rfl rfl rfl ⟨rfl, by decide, trivial⟩ ⟨⟨rfl, rfl, rfl⟩, (wkP_lend rfl (by first | rfl | (simp [setI]; done) | omega | (dsimp only; omega) | (simp [setI]; omega)) (fun _ => rfl)), trivial⟩ rfl rfl ⟨⟨_, rfl, rfl, rfl, .inr ⟨⟨⟨⟨rfl, rfl, (by first | rfl | (simp [setI]; done) | omega | (dsimp only; omega) | (simp [setI]; omega))⟩, trivial⟩, trivial⟩, ⟨rfl, trivial⟩⟩⟩, ⟨_, rfl, rfl, rfl, wkX_map (enc := I) pv3 (fun _ => rfl)⟩, trivial⟩ rfl rfl ⟨⟨_, rfl, rfl, rfl, .inr ⟨⟨⟨⟨rfl, rfl, (by first | rfl | (simp [setI]; done) | omega | (dsimp only; omega) | (simp [setI]; omega))⟩, trivial⟩, trivial⟩, ⟨rfl, trivial⟩⟩⟩, ⟨_, rfl, rfl, rfl, wkX_map (enc := I) pv4 (fun _ => rfl)⟩, trivial⟩ (wkP_refl _ rfl) rfl (fun _ => ⟨rfl, ⟨nsl_one rfl, nsl_map (fun _ => rfl) _, trivial⟩⟩) rfl rfl rfl ?_
  refine go_nil nd ?_
  have e7 := of_some h
  subst e7
  refine ret_norm ?_
  exact finB [(1000, some 1000), (810, some 604)] ttok rfl rfl rfl rfl (wkP_refl _ rfl) ⟨⟨_, rfl, rfl, rfl, .inr ⟨⟨⟨⟨rfl, rfl, (by first | rfl | (simp [setI]; done) | omega | (dsimp only; omega) | (simp [setI]; omega))⟩, trivial⟩, trivial⟩, ⟨rfl, trivial⟩⟩⟩, ⟨_, rfl, rfl, rfl, wkX_map (enc := I) pv4 (fun _ => rfl)⟩, trivial⟩
 ·replace h := of_bif_f h c4
  refine awp_go hmix (go_run' ttok 2 rfl ?_)
  obtain ⟨pv5, hv8, h⟩ := of_obind h
  refine go_callM (.tup []) [(35, some ⟨3, 1, ([0]).map I⟩)] [(1000, some ⟨86, 1, [(.agg [(.arr 603 0 pv5.length)])]⟩), (603, some ⟨3, 1, pv5.map I⟩)] [(1000, some 1000), (1100, some 602)] [(1000, some 1000), (603, some 810)] fn51 (board_list__put_L_w pv2 ([0]) pv5 hv8) rfl rfl rfl rfl rfl ⟨rfl, by decide, trivial⟩ ⟨⟨rfl, rfl, rfl⟩, (wkP_lend rfl (by first | rfl | (simp [setI]; done) | omega | (dsimp only; omega) | (simp [setI]; omega)) (fun _ => rfl)), trivial⟩ rfl rfl ⟨⟨_, rfl, rfl, rfl, .inr ⟨⟨⟨⟨rfl, rfl, (by first | rfl | (simp [setI]; done) | omega | (dsimp only; omega) | (simp [setI]; omega))⟩, trivial⟩, trivial⟩, ⟨rfl, trivial⟩⟩⟩, ⟨_, rfl, rfl, rfl, wkX_map (enc := I) pv2 (fun _ => rfl)⟩, trivial⟩ rfl rfl ⟨⟨_, rfl, rfl, rfl, .inr ⟨⟨⟨⟨rfl, rfl, (by first | rfl | (simp [setI]; done) | omega | (dsimp only; omega) | (simp [setI]; omega))⟩, trivial⟩, trivial⟩, ⟨rfl, trivial⟩⟩⟩, ⟨_, rfl, rfl, rfl, wkX_map (enc := I) pv5 (fun _ => rfl)⟩, trivial⟩ (wkP_refl _ rfl) rfl (fun _ => ⟨rfl, ⟨nsl_one rfl, nsl_map (fun _ => rfl) _, trivial⟩⟩) rfl rfl rfl ?_
  refine go_nil nd (then_norm (awp_go hmix (go_run' ttok 4 rfl ?_)))
  obtain ⟨pv6, hv9, h⟩ := of_obind h
  refine go_callM (.tup []) [(40, some ⟨3, 1, ([b.Grade]).map I⟩)] [(1000, some ⟨86, 1, [(.agg [(.arr 604 0 pv6.length)])]⟩), (604, some ⟨3, 1, pv6.map I⟩)] [(1000, some 1000), (1100, some 603)] [(1000, some 1000), (604, some 810)] fn51 (board_list__put_L_w pv5 ([b.Grade]) pv6 hv9) rfl rfl rfl rfl rfl ⟨rfl, by decide, trivial⟩ ⟨⟨rfl, rfl, rfl⟩, (wkP_lend rfl (by first | rfl | (simp [setI]; done) | omega | (dsimp only; omega) | (simp [setI]; omega)) (fun _ => rfl)), trivial⟩ rfl rfl ⟨⟨_, rfl, rfl, rfl, .inr ⟨⟨⟨⟨rfl, rfl, (by first | rfl | (simp [setI]; done) | omega | (dsimp only; omega) | (simp [setI]; omega))⟩, trivial⟩, trivial⟩, ⟨rfl, trivial⟩⟩⟩, ⟨_, rfl, rfl, rfl, wkX_map (enc := I) pv5 (fun _ => rfl)⟩, trivial⟩ rfl rfl ⟨⟨_, rfl, rfl, rfl, .inr ⟨⟨⟨⟨rfl, rfl, (by first | rfl | (simp [setI]; done) | omega | (dsimp only; omega) | (simp [setI]; omega))⟩, trivial⟩, trivial⟩, ⟨rfl, trivial⟩⟩⟩, ⟨_, rfl, rfl, rfl, wkX_map (enc := I) pv6 (fun _ => rfl)⟩, trivial⟩ (wkP_refl _ rfl) rfl (fun _ => ⟨rfl, ⟨nsl_one rfl, nsl_map (fun _ => rfl) _, trivial⟩⟩) rfl rfl rfl ?_
  refine go_nil nd ?_
  have e10 := of_some h
  subst e10
  refine ret_norm ?_
  exact finB [(1000, some 1000), (810, some 604)] ttok rfl rfl rfl rfl (wkP_refl _ rfl) ⟨⟨_, rfl, rfl, rfl, .inr ⟨⟨⟨⟨rfl, rfl, (by first | rfl | (simp [setI]; done) | omega | (dsimp only; omega) | (simp [setI]; omega))⟩, trivial⟩, trivial⟩, ⟨rfl, trivial⟩⟩⟩, ⟨_, rfl, rfl, rfl, wkX_map (enc := I) pv6 (fun _ => rfl)⟩, trivial⟩
noncomputable def board_putBoard_L_c (N : Nat) (put_numbers : (List Int)) (b : TBoard) : Option (List Int) :=
 (Option.bind ((board_list__put_L_c N) put_numbers ([b.Product])) (fun pv => (Option.bind ((board_putBox_L_c N) pv b.Box) (fun pv1 => (Option.bind ((board_list__put_L_c N) pv1 ([b.Volume, b.Wane, b.Cell.Surf, b.Cell.Core, b.Cell.Stress])) (fun pv2 => (bif b.Dried then (Option.bind ((board_list__put_L_c N) pv2 ([1])) (fun pv3 => (Option.bind ((board_list__put_L_c N) pv3 ([b.Grade])) (fun pv4 => some pv4)))) else (Option.bind ((board_list__put_L_c N) pv2 ([0])) (fun pv5 => (Option.bind ((board_list__put_L_c N) pv5 ([b.Grade])) (fun pv6 => some pv6)))))))))))
theorem board_putBoard_L_le (N : Nat) (put_numbers : (List Int)) (b : TBoard) : OLe (board_putBoard_L_c N put_numbers b) (board_putBoard_L_g put_numbers b) := by
 unfold board_putBoard_L_c board_putBoard_L_g
 repeat' (first | exact ole_rfl | exact board_list__put_L_le _ _ _ | exact board_putBox_L_le _ _ _ | refine ole_bif ?_ ?_ | refine ole_bind ?_ (fun _ => ?_) | refine ole_let (fun _ => ?_) | refine ole_map ?_ | refine ole_elim (fun _ => ?_) (fun _ => ?_) | refine ole_loop (fun _ => ?_))
noncomputable def board_putDefects_L_s1 (l : (List Df)) (vv : Int) (w : (List Int)) : Option ((Int × (List Int)) ⊕ (List Int)) :=
 (bif (decide (vv < ((l.length : Nat) : Int))) then (Option.bind (getI l vv) (fun e => (Option.bind (board_list__put_L_g w ([e.k])) (fun pv => (Option.bind (board_putBox_L_g pv e.b) (fun pv1 => some (Sum.inl ((W64 (vv + 1)), pv1)))))))) else some (Sum.inr w))
noncomputable def board_putDefects_L_g (put_numbers : (List Int)) (l : (List Df)) : Option (List Int) :=
 (loopO (fun q => board_putDefects_L_s1 l q.1 q.2) (0, put_numbers))
theorem board_putDefects_L_w (put_numbers : (List Int)) (l : (List Df)) (r : (List Int)) (h : board_putDefects_L_g put_numbers l = some r) : Holds Tryz.prog 52 [(.clo 51 [(.ref 1000 0 0)] []), ((encL encDf) l)] [(1000, some ⟨86, 1, [(.agg [(.arr 1100 0 put_numbers.length)])]⟩), (1100, some ⟨3, 1, put_numbers.map I⟩)] (.tup []) [(1000, some ⟨86, 1, [(.agg [(.arr 810 0 r.length)])]⟩), (810, some ⟨3, 1, r.map I⟩)] := by
 unfold board_putDefects_L_g at h
 refine holds_fn Tryz.func52 rfl Tryz.ntmps52 rfl rfl rfl (fun lim => ?_)
 refine awp_seq (awp_go hmix (go_run' ttok 1 rfl ?_))
 refine go_lenT encDf l ttok rfl rfl rfl rfl rfl rfl ?_
 refine go_run' ttok 1 rfl (go_nil nd (then_norm (awp_block ?_)))
 refine awp_loopD (X := (Int × (List Int))) (Y := (List Int)) [0, 6, 7] [] (fun q => [(8, (I q.1))]) (fun q => [(990, some ⟨3, 1, q.2.map I⟩), (1000, some ⟨86, 1, [(.agg [(.arr 990 0 q.2.length)])]⟩)]) (fun q => board_putDefects_L_s1 l q.1 q.2) (0, put_numbers) [(990, some 1100), (1000, some 1000)] h ⟨rfl, rfl, rfl, rfl, rfl, ⟨wkP_id _ rfl, trivial⟩, ⟨⟨_, rfl, rfl, rfl, wkX_map (enc := I) put_numbers (fun _ => rfl)⟩, ⟨_, rfl, rfl, rfl, .inr ⟨⟨⟨⟨rfl, rfl, (by first | rfl | (simp [setI]; done) | omega | (dsimp only; omega) | (simp [setI]; omega))⟩, trivial⟩, trivial⟩, ⟨rfl, trivial⟩⟩⟩, trivial⟩⟩ (fun x vR vz hz1 hk2 => ?_)
 obtain ⟨vv, w⟩ := x
 change board_putDefects_L_s1 l vv w = _ at hz1
 unfold board_putDefects_L_s1 at hz1
 refine awp_seq (awp_go hmix (go_run' ttok 1 rfl (go_nil nd (then_norm (awp_seq ?_)))))
 refine awp_cond (b := (decide (vv < ((l.length : Nat) : Int)))) rfl (fun c3 => ?_) (fun c3 => ?_)
 ·replace hz1 := of_bif_t hz1 c3
  refine awp_skip (then_norm (awp_seq (awp_block (awp_seq (awp_go hmix ?_)))))
  obtain ⟨e, hv4, hz1⟩ := of_obind hz1
  refine go_indexT encDf l vv e hv4 ttok rfl rfl rfl rfl rfl rfl rfl rfl rfl ?_
  refine go_run' ttok 3 rfl (go_nil nd (then_norm (awp_seq (awp_go hmix (go_run' ttok 4 rfl ?_)))))
  obtain ⟨pv, hv5, hz1⟩ := of_obind hz1
  refine go_callM (.tup []) [(15, some ⟨3, 1, ([e.k]).map I⟩)] [(1000, some ⟨86, 1, [(.agg [(.arr 600 0 pv.length)])]⟩), (600, some ⟨3, 1, pv.map I⟩)] [(1000, some 1000), (1100, some 990)] [(1000, some 1000), (600, some 810)] fn51 (board_list__put_L_w w ([e.k]) pv hv5) rfl rfl rfl rfl rfl ⟨rfl, by decide, trivial⟩ ⟨⟨rfl, rfl, rfl⟩, (wkP_lend rfl (by first | rfl | (simp [setI]; done) | omega | (dsimp only; omega) | (simp [setI]; omega)) (fun _ => rfl)), trivial⟩ rfl rfl ⟨⟨_, rfl, rfl, rfl, .inr ⟨⟨⟨⟨rfl, rfl, (by first | rfl | (simp [setI]; done) | omega | (dsimp only; omega) | (simp [setI]; omega))⟩, trivial⟩, trivial⟩, ⟨rfl, trivial⟩⟩⟩, ⟨_, rfl, rfl, rfl, wkX_map (enc := I) w (fun _ => rfl)⟩, trivial⟩ rfl rfl ⟨⟨_, rfl, rfl, rfl, .inr ⟨⟨⟨⟨rfl, rfl, (by first | rfl | (simp [setI]; done) | omega | (dsimp only; omega) | (simp [setI]; omega))⟩, trivial⟩, trivial⟩, ⟨rfl, trivial⟩⟩⟩, ⟨_, rfl, rfl, rfl, wkX_map (enc := I) pv (fun _ => rfl)⟩, trivial⟩ (wkP_refl _ rfl) rfl (fun _ => ⟨rfl, ⟨nsl_one rfl, nsl_map (fun _ => rfl) _, trivial⟩⟩) rfl rfl rfl ?_
  refine go_nil nd (then_norm (awp_go hmix (go_run' ttok 3 rfl ?_)))
  obtain ⟨pv1, hv6, hz1⟩ := of_obind hz1
  refine go_callM (.tup []) [] [(1000, some ⟨86, 1, [(.agg [(.arr 601 0 pv1.length)])]⟩), (601, some ⟨3, 1, pv1.map I⟩)] [(1000, some 1000), (1100, some 600)] [(1000, some 1000), (601, some 810)] fn102 (board_putBox_L_w pv e.b pv1 hv6) rfl rfl rfl rfl rfl trivial ⟨⟨rfl, ⟨⟨rfl, rfl, rfl⟩, trivial⟩, trivial⟩, (wkP_refl _ rfl), trivial⟩ rfl rfl ⟨⟨_, rfl, rfl, rfl, .inr ⟨⟨⟨⟨rfl, rfl, (by first | rfl | (simp [setI]; done) | omega | (dsimp only; omega) | (simp [setI]; omega))⟩, trivial⟩, trivial⟩, ⟨rfl, trivial⟩⟩⟩, ⟨_, rfl, rfl, rfl, wkX_map (enc := I) pv (fun _ => rfl)⟩, trivial⟩ rfl rfl ⟨⟨_, rfl, rfl, rfl, .inr ⟨⟨⟨⟨rfl, rfl, (by first | rfl | (simp [setI]; done) | omega | (dsimp only; omega) | (simp [setI]; omega))⟩, trivial⟩, trivial⟩, ⟨rfl, trivial⟩⟩⟩, ⟨_, rfl, rfl, rfl, wkX_map (enc := I) pv1 (fun _ => rfl)⟩, trivial⟩ (wkP_refl _ rfl) rfl (fun h => absurd rfl h) rfl rfl rfl ?_
  refine go_nil nd (block_norm (then_norm (awp_go hmix (go_run' ttok 2 rfl (go_nil nd ?_)))))
  have e7 := of_some hz1
  subst e7
  refine then_norm ⟨rfl, ((W64 (vv + 1)), pv1), [(990, some 601), (1000, some 1000)], ⟨rfl, rfl, rfl, rfl, rfl, ⟨wkP_id _ rfl, trivial⟩, ⟨⟨_, rfl, rfl, rfl, wkX_map (enc := I) pv1 (fun _ => rfl)⟩, ⟨_, rfl, rfl, rfl, .inr ⟨⟨⟨⟨rfl, rfl, (by first | rfl | (simp [setI]; done) | omega | (dsimp only; omega) | (simp [setI]; omega))⟩, trivial⟩, trivial⟩, ⟨rfl, trivial⟩⟩⟩, trivial⟩⟩, hk2⟩
 ·replace hz1 := of_bif_f hz1 c3
  refine awp_exit (then_exit ?_)
  obtain ⟨t, hn8, hq⟩ := of_mapr' hz1
  subst hq
  have hq : t = _ := hk2
  subst hq
  refine then_exit (block_here ?_)
  have e9 := of_some hn8
  subst e9
  refine ret_norm ?_
  exact finB [(1000, some 1000), (810, some 990)] ttok rfl rfl rfl rfl (wkP_refl _ rfl) ⟨⟨_, rfl, rfl, rfl, .inr ⟨⟨⟨⟨rfl, rfl, (by first | rfl | (simp [setI]; done) | omega | (dsimp only; omega) | (simp [setI]; omega))⟩, trivial⟩, trivial⟩, ⟨rfl, trivial⟩⟩⟩, ⟨_, rfl, rfl, rfl, wkX_map (enc := I) w (fun _ => rfl)⟩, trivial⟩
noncomputable def board_putDefects_L_cs1 (N : Nat) (l : (List Df)) (vv : Int) (w : (List Int)) : Option ((Int × (List Int)) ⊕ (List Int)) :=
 (bif (decide (vv < ((l.length : Nat) : Int))) then (Option.bind (getI l vv) (fun e => (Option.bind ((board_list__put_L_c N) w ([e.k])) (fun pv => (Option.bind ((board_putBox_L_c N) pv e.b) (fun pv1 => some (Sum.inl ((W64 (vv + 1)), pv1)))))))) else some (Sum.inr w))
theorem board_putDefects_L_cs1_le (N : Nat) (l : (List Df)) (vv : Int) (w : (List Int)) : OLe (board_putDefects_L_cs1 N l vv w) (board_putDefects_L_s1 l vv w) := by
 unfold board_putDefects_L_cs1 board_putDefects_L_s1
 repeat' (first | exact ole_rfl | exact board_list__put_L_le _ _ _ | exact board_putBox_L_le _ _ _ | refine ole_bif ?_ ?_ | refine ole_bind ?_ (fun _ => ?_) | refine ole_let (fun _ => ?_) | refine ole_map ?_ | refine ole_elim (fun _ => ?_) (fun _ => ?_) | refine ole_loop (fun _ => ?_))
noncomputable def board_putDefects_L_c (N : Nat) (put_numbers : (List Int)) (l : (List Df)) : Option (List Int) :=
 (iterX N (fun q => board_putDefects_L_cs1 N l q.1 q.2) (0, put_numbers))
theorem board_putDefects_L_le (N : Nat) (put_numbers : (List Int)) (l : (List Df)) : OLe (board_putDefects_L_c N put_numbers l) (board_putDefects_L_g put_numbers l) := by
 unfold board_putDefects_L_c board_putDefects_L_g
 repeat' (first | exact ole_rfl | exact board_list__put_L_le _ _ _ | exact board_putBox_L_le _ _ _ | exact board_putDefects_L_cs1_le _ _ _ _ | refine ole_bif ?_ ?_ | refine ole_bind ?_ (fun _ => ?_) | refine ole_let (fun _ => ?_) | refine ole_map ?_ | refine ole_elim (fun _ => ?_) (fun _ => ?_) | refine ole_loop (fun _ => ?_))
noncomputable def wire_Uint_s1 (n2 : Int) (b1 : (List Int)) : Option ((Int × (List Int)) ⊕ (Int × (List Int))) :=
 (bif (decide (128 ≤ n2)) then (Option.bind (appO 1 b1 ([(bOr .u8 (WU8 n2) 128)])) (fun l => some (Sum.inl ((bShr .u64 n2 7), l)))) else some (Sum.inr (n2, b1)))
noncomputable def wire_Uint_g (n : Int) : Option ByteArray :=
 (Option.bind ((loopO (fun q => wire_Uint_s1 q.1 q.2) (n, [])) : Option (Int × (List Int))) (fun w1 => (Option.bind (appO 1 w1.2 ([(WU8 w1.1)])) (fun l1 => some (b2s l1)))))
theorem wire_Uint_w (n : Int) (r : ByteArray) (h : wire_Uint_g n = some r) : Holds Tryz.prog 103 [(U64 n)] [] (S r) [] := by
 unfold wire_Uint_g at h
 refine holds_fn Tryz.func103 rfl Tryz.ntmps103 rfl rfl rfl (fun lim => ?_)
 refine awp_seq (awp_go hmix (go_run' ttok 1 rfl (go_nil nd (then_norm (awp_seq (awp_go hmix (go_run' ttok 1 rfl (go_nil nd (then_norm ?_)))))))))
 obtain ⟨y, hx1, h⟩ := of_obind h
 refine awp_seqJ (X := (Int × (List Int))) [] [] (fun w => [(0, (U64 w.1)), (3, (.arr 3 0 w.2.length))]) (fun w => [(3, some ⟨5, 1, w.2.map U8⟩)]) (fun w => w = y) rfl rfl ?_ ?_
 ·skip
  refine awp_block ?_
  refine awp_loopD (X := (Int × (List Int))) (Y := (Int × (List Int))) [] [] (fun q => [(0, (U64 q.1)), (3, (.arr 3 0 q.2.length))]) (fun q => [(3, some ⟨5, 1, q.2.map U8⟩)]) (fun q => wire_Uint_s1 q.1 q.2) (n, []) [(3, none)] hx1 ⟨rfl, rfl, rfl, rfl, rfl, ⟨wkP_id _ rfl, ⟨rfl, rfl, (by first | rfl | (simp [setI]; done) | omega | (dsimp only; omega) | (simp [setI]; omega))⟩, trivial⟩, ⟨rfl, trivial⟩⟩ (fun x vR vz hz3 hk4 => ?_)
  obtain ⟨n2, b1⟩ := x
  change wire_Uint_s1 n2 b1 = _ at hz3
  unfold wire_Uint_s1 at hz3
  refine awp_seq (awp_seq (awp_go hmix (go_run' ttok 2 rfl (go_nil nd (then_norm ?_)))))
  refine awp_cond (b := (decide (128 ≤ n2))) rfl (fun c5 => ?_) (fun c5 => ?_)
  ·replace hz3 := of_bif_t hz3 c5
   refine awp_skip (then_norm (awp_block (awp_seq (awp_go hmix (go_run' ttok 5 rfl ?_)))))
   obtain ⟨l, hv6, hz3⟩ := of_obind hz3
   refine go_appT U8 b1 ([(bOr .u8 (WU8 n2) 128)]) l hv6 (fun _ => rfl) (by first | rfl | (simp [setI]; done) | omega | (dsimp only; omega) | (simp [setI]; omega)) (by first | rfl | (simp [setI]; done) | omega | (dsimp only; omega) | (simp [setI]; omega)) ttok rfl rfl rfl rfl rfl rfl rfl rfl rfl rfl rfl rfl rfl rfl rfl rfl rfl ?_
   refine go_run' ttok 1 rfl (go_nil nd (then_norm (awp_go hmix (go_run' ttok 3 rfl (go_nil nd (block_norm ?_))))))
   have e7 := of_some hz3
   subst e7
   refine then_norm ⟨rfl, ((bShr .u64 n2 7), l), [(3, some 11)], ⟨rfl, rfl, rfl, rfl, rfl, ⟨wkP_id _ rfl, ⟨rfl, rfl, (by first | rfl | (simp [setI]; done) | omega | (dsimp only; omega) | (simp [setI]; omega))⟩, trivial⟩, ⟨⟨_, rfl, rfl, rfl, wkX_map (enc := U8) l (fun _ => rfl)⟩, trivial⟩⟩, hk4⟩
  ·replace hz3 := of_bif_f hz3 c5
   refine awp_exit (then_exit ?_)
   obtain ⟨t, hn8, hq⟩ := of_mapr' hz3
   subst hq
   have hq : t = _ := hk4
   subst hq
   refine then_exit (block_here ?_)
   have e9 := of_some hn8
   refine then_norm ⟨rfl, (n2, b1), [(3, some 3)], ⟨rfl, rfl, rfl, rfl, rfl, ⟨wkP_id _ rfl, ⟨rfl, rfl, (by first | rfl | (simp [setI]; done) | omega | (dsimp only; omega) | (simp [setI]; omega))⟩, trivial⟩, ⟨⟨_, rfl, rfl, rfl, wkX_map (enc := U8) b1 (fun _ => rfl)⟩, trivial⟩⟩, e9⟩
 ·intro w hw2
  subst hw2
  obtain ⟨n1, b⟩ := w
  refine awp_seq (awp_go hmix (go_run' ttok 4 rfl ?_))
  obtain ⟨l1, hv10, h⟩ := of_obind h
  refine go_appT U8 b ([(WU8 n1)]) l1 hv10 (fun _ => rfl) (by first | rfl | (simp [setI]; done) | omega | (dsimp only; omega) | (simp [setI]; omega)) (by first | rfl | (simp [setI]; done) | omega | (dsimp only; omega) | (simp [setI]; omega)) ttok rfl rfl rfl rfl rfl rfl rfl rfl rfl rfl rfl rfl rfl rfl rfl rfl rfl ?_
  refine go_b2s l1 (by first | rfl | (simp [setI]; done) | omega | (dsimp only; omega) | (simp [setI]; omega)) ttok rfl rfl rfl rfl rfl rfl rfl rfl rfl rfl rfl rfl ?_
  refine go_run' ttok 1 rfl (go_nil nd (then_norm (awp_ret ?_)))
  have e11 := of_some h
  subst e11
  refine ret_ret ?_
  refine fin0 ttok rfl rfl ?_
  exact (wkP_refl _ rfl)
noncomputable def wire_Uint_cs1 (N : Nat) (n2 : Int) (b1 : (List Int)) : Option ((Int × (List Int)) ⊕ (Int × (List Int))) :=
 (bif (decide (128 ≤ n2)) then (Option.bind (appO 1 b1 ([(bOr .u8 (WU8 n2) 128)])) (fun l => some (Sum.inl ((bShr .u64 n2 7), l)))) else some (Sum.inr (n2, b1)))
theorem wire_Uint_cs1_le (N : Nat) (n2 : Int) (b1 : (List Int)) : OLe (wire_Uint_cs1 N n2 b1) (wire_Uint_s1 n2 b1) := by
 unfold wire_Uint_cs1 wire_Uint_s1
 repeat' (first | exact ole_rfl | refine ole_bif ?_ ?_ | refine ole_bind ?_ (fun _ => ?_) | refine ole_let (fun _ => ?_) | refine ole_map ?_ | refine ole_elim (fun _ => ?_) (fun _ => ?_) | refine ole_loop (fun _ => ?_))
noncomputable def wire_Uint_c (N : Nat) (n : Int) : Option ByteArray :=
 (Option.bind ((iterX N (fun q => wire_Uint_cs1 N q.1 q.2) (n, [])) : Option (Int × (List Int))) (fun w1 => (Option.bind (appO 1 w1.2 ([(WU8 w1.1)])) (fun l1 => some (b2s l1)))))
theorem wire_Uint_le (N : Nat) (n : Int) : OLe (wire_Uint_c N n) (wire_Uint_g n) := by
 unfold wire_Uint_c wire_Uint_g
 repeat' (first | exact ole_rfl | exact wire_Uint_cs1_le _ _ _ | refine ole_bif ?_ ?_ | refine ole_bind ?_ (fun _ => ?_) | refine ole_let (fun _ => ?_) | refine ole_map ?_ | refine ole_elim (fun _ => ?_) (fun _ => ?_) | refine ole_loop (fun _ => ?_))
noncomputable def wire_Text_g (s : ByteArray) : Option ByteArray :=
 (Option.bind (wire_Uint_g (WU64 ((s.size : Nat) : Int))) (fun uv => (Option.bind (catO uv s) (fun t => some t))))
theorem wire_Text_w (s : ByteArray) (r : ByteArray) (h : wire_Text_g s = some r) : Holds Tryz.prog 53 [(S s)] [] (S r) [] := by
 unfold wire_Text_g at h
 refine holds_fn Tryz.func53 rfl Tryz.ntmps53 rfl rfl rfl (fun lim => ?_)
 refine awp_seq (awp_go hmix (go_run' ttok 1 rfl (go_nil nd (then_norm (awp_seq (awp_go hmix (go_run' ttok 3 rfl ?_)))))))
 obtain ⟨uv, hv1, h⟩ := of_obind h
 refine go_call fn103 (wire_Uint_w (WU64 ((s.size : Nat) : Int)) uv hv1) rfl rfl rfl rfl rfl rfl rfl ?_
 refine go_run' ttok 1 rfl ?_
 obtain ⟨t, hv2, h⟩ := of_obind h
 refine go_catT uv s t hv2 rfl rfl rfl rfl rfl ?_
 refine go_run' ttok 1 rfl (go_nil nd (then_norm (awp_ret ?_)))
 have e3 := of_some h
 subst e3
 refine ret_ret ?_
 refine fin0 ttok rfl rfl ?_
 exact (wkP_refl _ rfl)
noncomputable def wire_Text_c (N : Nat) (s : ByteArray) : Option ByteArray :=
 (Option.bind ((wire_Uint_c N) (WU64 ((s.size : Nat) : Int))) (fun uv => (Option.bind (catO uv s) (fun t => some t))))
theorem wire_Text_le (N : Nat) (s : ByteArray) : OLe (wire_Text_c N s) (wire_Text_g s) := by
 unfold wire_Text_c wire_Text_g
 repeat' (first | exact ole_rfl | exact wire_Uint_le _ _ | refine ole_bif ?_ ?_ | refine ole_bind ?_ (fun _ => ?_) | refine ole_let (fun _ => ?_) | refine ole_map ?_ | refine ole_elim (fun _ => ?_) (fun _ => ?_) | refine ole_loop (fun _ => ?_))
noncomputable def __strings_Builder__copyCheck_n_g (b_buf : (List Int)) : (List Int) :=
 b_buf
theorem __strings_Builder__copyCheck_n_w (b_buf : (List Int)) (r : (List Int)) (h : __strings_Builder__copyCheck_n_g b_buf = r) : Holds Tryz.prog 154 [(.ref 1000 0 0)] [(1000, some ⟨143, 2, [(.agg [(.sc (.pointer none)), (.arr 1101 0 b_buf.length)])]⟩), (1101, some ⟨5, 1, b_buf.map U8⟩)] (.tup []) [(1000, some ⟨143, 2, [(.agg [(.ref 1000 0 0), (.arr 811 0 r.length)])]⟩), (811, some ⟨5, 1, r.map U8⟩)] := by
 unfold __strings_Builder__copyCheck_n_g at h
 refine holds_fn Tryz.func154 rfl Tryz.ntmps154 rfl rfl rfl (fun lim => ?_)
 refine awp_seq (awp_go hmix (go_run' ttok 1 rfl ?_))
 refine go_step rfl (as_nilCheck rfl rfl) rfl rfl rfl ?_
 refine go_run' ttok 2 rfl ?_
 refine go_step rfl (as_nilNil (.inl ⟨rfl, rfl⟩) rfl Tryz.underlying140 rfl rfl) rfl rfl rfl ?_
 refine go_nil nd (then_norm ?_)
 refine awp_cond rfl (fun tt0 => ?_) (fun h => by cases h)
 clear tt0
 refine awp_go hmix (go_run' ttok 2 rfl ?_)
 refine go_step rfl (as_toUnsafe rfl Tryz.underlying140 Tryz.underlying201 ty143_ok (by decide) rfl rfl (by simp)) rfl rfl rfl ?_
 refine go_step rfl (as_noEscape rfl Tryz.func168 (by kernel_rfl) rfl (by kernel_rfl) (by kernel_rfl) rfl) rfl rfl rfl ?_
 refine go_step rfl (as_fromUnsafe rfl Tryz.underlying201 Tryz.underlying140 ty143_ok (by kernel_rfl) rfl rfl (by simp) rfl rfl) rfl rfl rfl ?_
 refine go_step rfl (as_nilCheck rfl rfl) rfl rfl rfl ?_
 refine go_run' ttok 2 rfl (go_nil nd ?_)
 have e1 := h
 subst e1
 refine ret_norm ?_
 exact finB [(1000, some 1000), (811, some 1101)] ttok rfl rfl rfl rfl (wkP_refl _ rfl) ⟨⟨_, rfl, rfl, rfl, .inr ⟨⟨⟨⟨rfl, rfl, rfl⟩, ⟨rfl, rfl, (by first | rfl | (simp [setI]; done) | omega | (dsimp only; omega) | (simp [setI]; omega))⟩, trivial⟩, trivial⟩, ⟨rfl, trivial⟩⟩⟩, ⟨_, rfl, rfl, rfl, wkX_map (enc := U8) b_buf (fun _ => rfl)⟩, trivial⟩
noncomputable def __strings_Builder__copyCheck_s_g (b_buf : (List Int)) : (List Int) :=
 b_buf
theorem __strings_Builder__copyCheck_s_w (b_buf : (List Int)) (r : (List Int)) (h : __strings_Builder__copyCheck_s_g b_buf = r) : Holds Tryz.prog 154 [(.ref 1000 0 0)] [(1000, some ⟨143, 2, [(.agg [(.ref 1000 0 0), (.arr 1101 0 b_buf.length)])]⟩), (1101, some ⟨5, 1, b_buf.map U8⟩)] (.tup []) [(1000, some ⟨143, 2, [(.agg [(.ref 1000 0 0), (.arr 811 0 r.length)])]⟩), (811, some ⟨5, 1, r.map U8⟩)] := by
 unfold __strings_Builder__copyCheck_s_g at h
 refine holds_fn Tryz.func154 rfl Tryz.ntmps154 rfl rfl rfl (fun lim => ?_)
 refine awp_seq (awp_go hmix (go_run' ttok 1 rfl ?_))
 refine go_step rfl (as_nilCheck rfl rfl) rfl rfl rfl ?_
 refine go_run' ttok 2 rfl ?_
 refine go_step rfl (as_refNil (.inl ⟨rfl, rfl⟩) rfl Tryz.underlying140 rfl rfl) rfl rfl rfl ?_
 refine go_nil nd (then_norm ?_)
 refine awp_cond rfl (fun h => by cases h) (fun tt0 => ?_)
 clear tt0
 refine awp_seq (awp_go hmix (go_run' ttok 1 rfl ?_))
 refine go_step rfl (as_nilCheck rfl rfl) rfl rfl rfl ?_
 refine go_run' ttok 3 rfl ?_
 refine go_step rfl (as_refSame (.inr ⟨rfl, rfl⟩) rfl Tryz.underlying140 ty143_ok rfl rfl) rfl rfl rfl ?_
 refine go_nil nd (then_norm ?_)
 refine awp_cond rfl (fun h => by cases h) (fun tt0 => ?_)
 clear tt0
 refine awp_skip ?_
 have e1 := h
 subst e1
 refine ret_norm ?_
 exact finB [(1000, some 1000), (811, some 1101)] ttok rfl rfl rfl rfl (wkP_refl _ rfl) ⟨⟨_, rfl, rfl, rfl, .inr ⟨⟨⟨⟨rfl, rfl, rfl⟩, ⟨rfl, rfl, (by first | rfl | (simp [setI]; done) | omega | (dsimp only; omega) | (simp [setI]; omega))⟩, trivial⟩, trivial⟩, ⟨rfl, trivial⟩⟩⟩, ⟨_, rfl, rfl, rfl, wkX_map (enc := U8) b_buf (fun _ => rfl)⟩, trivial⟩
noncomputable def __strings_Builder__WriteString_n_g (b_buf : (List Int)) (s : ByteArray) : Option (Int × (List Int)) :=
 (letB (__strings_Builder__copyCheck_n_g b_buf) (fun cv => (Option.bind (appO 1 cv (sbytes s)) (fun l => some (((s.size : Nat) : Int), l)))))
theorem __strings_Builder__WriteString_n_w (b_buf : (List Int)) (s : ByteArray) (r : (Int × (List Int))) (h : __strings_Builder__WriteString_n_g b_buf s = some r) : Holds Tryz.prog 104 [(.ref 1000 0 0), (S s)] [(1000, some ⟨143, 2, [(.agg [(.sc (.pointer none)), (.arr 1101 0 b_buf.length)])]⟩), (1101, some ⟨5, 1, b_buf.map U8⟩)] (.tup [(I r.1), (.sc .nilIface)]) [(1000, some ⟨143, 2, [(.agg [(.ref 1000 0 0), (.arr 811 0 r.2.length)])]⟩), (811, some ⟨5, 1, r.2.map U8⟩)] := by
 unfold __strings_Builder__WriteString_n_g at h
 refine holds_fn Tryz.func104 rfl Tryz.ntmps104 rfl rfl rfl (fun lim => ?_)
 refine awp_seq (awp_go hmix (go_run' ttok 2 rfl (go_nil nd (then_norm (awp_seq (awp_go hmix (go_run' ttok 1 rfl ?_)))))))
 obtain ⟨cv, hv1, h⟩ := of_let h
 refine go_callM (.tup []) [] [(1000, some ⟨143, 2, [(.agg [(.ref 1000 0 0), (.arr 600 0 cv.length)])]⟩), (600, some ⟨5, 1, cv.map U8⟩)] [(1000, some 1000), (1101, some 1101)] [(1000, some 1000), (600, some 811)] fn154 (__strings_Builder__copyCheck_n_w b_buf cv hv1) rfl rfl rfl rfl rfl trivial ⟨⟨rfl, rfl, rfl⟩, trivial⟩ rfl rfl ⟨⟨_, rfl, rfl, rfl, .inr ⟨⟨⟨wkP_id _ rfl, ⟨rfl, rfl, (by first | rfl | (simp [setI]; done) | omega | (dsimp only; omega) | (simp [setI]; omega))⟩, trivial⟩, trivial⟩, ⟨rfl, trivial⟩⟩⟩, ⟨_, rfl, rfl, rfl, wkX_map (enc := U8) b_buf (fun _ => rfl)⟩, trivial⟩ rfl rfl ⟨⟨_, rfl, rfl, rfl, .inr ⟨⟨⟨⟨rfl, rfl, rfl⟩, ⟨rfl, rfl, (by first | rfl | (simp [setI]; done) | omega | (dsimp only; omega) | (simp [setI]; omega))⟩, trivial⟩, trivial⟩, ⟨rfl, trivial⟩⟩⟩, ⟨_, rfl, rfl, rfl, wkX_map (enc := U8) cv (fun _ => rfl)⟩, trivial⟩ (wkP_refl _ rfl) rfl (fun h => absurd rfl h) rfl rfl rfl ?_
 refine go_nil nd (then_norm (awp_seq (awp_go hmix (go_run' ttok 2 rfl ?_))))
 refine go_step rfl (as_nilCheck rfl rfl) rfl rfl rfl ?_
 refine go_run' ttok 3 rfl ?_
 obtain ⟨l, hv2, h⟩ := of_obind h
 refine go_appStr cv l s hv2 (by first | rfl | (simp [setI]; done) | omega | (dsimp only; omega) | (simp [setI]; omega)) ttok rfl rfl rfl rfl rfl rfl rfl rfl rfl rfl rfl rfl rfl rfl rfl rfl rfl ?_
 refine go_step rfl (as_nilCheck rfl rfl) rfl rfl rfl ?_
 refine go_run' ttok 2 rfl (go_nil nd (then_norm (awp_seq (awp_go hmix (go_run' ttok 4 rfl (go_nil nd (then_norm (awp_ret ?_))))))))
 have e3 := of_some h
 subst e3
 refine ret_ret ?_
 exact finB [(1000, some 1000), (811, some 14)] ttok rfl rfl rfl rfl (wkP_refl _ rfl) ⟨⟨_, rfl, rfl, rfl, .inr ⟨⟨⟨⟨rfl, rfl, rfl⟩, ⟨rfl, rfl, (by first | rfl | (simp [setI]; done) | omega | (dsimp only; omega) | (simp [setI]; omega))⟩, trivial⟩, trivial⟩, ⟨rfl, trivial⟩⟩⟩, ⟨_, rfl, rfl, rfl, wkX_map (enc := U8) l (fun _ => rfl)⟩, trivial⟩
noncomputable def __strings_Builder__WriteString_n_c (N : Nat) (b_buf : (List Int)) (s : ByteArray) : Option (Int × (List Int)) :=
 (letB (__strings_Builder__copyCheck_n_g b_buf) (fun cv => (Option.bind (appO 1 cv (sbytes s)) (fun l => some (((s.size : Nat) : Int), l)))))
theorem __strings_Builder__WriteString_n_le (N : Nat) (b_buf : (List Int)) (s : ByteArray) : OLe (__strings_Builder__WriteString_n_c N b_buf s) (__strings_Builder__WriteString_n_g b_buf s) := by
 unfold __strings_Builder__WriteString_n_c __strings_Builder__WriteString_n_g
 repeat' (first | exact ole_rfl | refine ole_bif ?_ ?_ | refine ole_bind ?_ (fun _ => ?_) | refine ole_let (fun _ => ?_) | refine ole_map ?_ | refine ole_elim (fun _ => ?_) (fun _ => ?_) | refine ole_loop (fun _ => ?_))
noncomputable def __strings_Builder__WriteString_s_g (b_buf : (List Int)) (s : ByteArray) : Option (Int × (List Int)) :=
 (letB (__strings_Builder__copyCheck_s_g b_buf) (fun cv => (Option.bind (appO 1 cv (sbytes s)) (fun l => some (((s.size : Nat) : Int), l)))))
theorem __strings_Builder__WriteString_s_w (b_buf : (List Int)) (s : ByteArray) (r : (Int × (List Int))) (h : __strings_Builder__WriteString_s_g b_buf s = some r) : Holds Tryz.prog 104 [(.ref 1000 0 0), (S s)] [(1000, some ⟨143, 2, [(.agg [(.ref 1000 0 0), (.arr 1101 0 b_buf.length)])]⟩), (1101, some ⟨5, 1, b_buf.map U8⟩)] (.tup [(I r.1), (.sc .nilIface)]) [(1000, some ⟨143, 2, [(.agg [(.ref 1000 0 0), (.arr 811 0 r.2.length)])]⟩), (811, some ⟨5, 1, r.2.map U8⟩)] := by
 unfold __strings_Builder__WriteString_s_g at h
 refine holds_fn Tryz.func104 rfl Tryz.ntmps104 rfl rfl rfl (fun lim => ?_)
 refine awp_seq (awp_go hmix (go_run' ttok 2 rfl (go_nil nd (then_norm (awp_seq (awp_go hmix (go_run' ttok 1 rfl ?_)))))))
 obtain ⟨cv, hv1, h⟩ := of_let h
 refine go_callM (.tup []) [] [(1000, some ⟨143, 2, [(.agg [(.ref 1000 0 0), (.arr 600 0 cv.length)])]⟩), (600, some ⟨5, 1, cv.map U8⟩)] [(1000, some 1000), (1101, some 1101)] [(1000, some 1000), (600, some 811)] fn154 (__strings_Builder__copyCheck_s_w b_buf cv hv1) rfl rfl rfl rfl rfl trivial ⟨⟨rfl, rfl, rfl⟩, trivial⟩ rfl rfl ⟨⟨_, rfl, rfl, rfl, .inr ⟨⟨⟨⟨rfl, rfl, rfl⟩, ⟨rfl, rfl, (by first | rfl | (simp [setI]; done) | omega | (dsimp only; omega) | (simp [setI]; omega))⟩, trivial⟩, trivial⟩, ⟨rfl, trivial⟩⟩⟩, ⟨_, rfl, rfl, rfl, wkX_map (enc := U8) b_buf (fun _ => rfl)⟩, trivial⟩ rfl rfl ⟨⟨_, rfl, rfl, rfl, .inr ⟨⟨⟨⟨rfl, rfl, rfl⟩, ⟨rfl, rfl, (by first | rfl | (simp [setI]; done) | omega | (dsimp only; omega) | (simp [setI]; omega))⟩, trivial⟩, trivial⟩, ⟨rfl, trivial⟩⟩⟩, ⟨_, rfl, rfl, rfl, wkX_map (enc := U8) cv (fun _ => rfl)⟩, trivial⟩ (wkP_refl _ rfl) rfl (fun h => absurd rfl h) rfl rfl rfl ?_
 refine go_nil nd (then_norm (awp_seq (awp_go hmix (go_run' ttok 2 rfl ?_))))
 refine go_step rfl (as_nilCheck rfl rfl) rfl rfl rfl ?_
 refine go_run' ttok 3 rfl ?_
 obtain ⟨l, hv2, h⟩ := of_obind h
 refine go_appStr cv l s hv2 (by first | rfl | (simp [setI]; done) | omega | (dsimp only; omega) | (simp [setI]; omega)) ttok rfl rfl rfl rfl rfl rfl rfl rfl rfl rfl rfl rfl rfl rfl rfl rfl rfl ?_
 refine go_step rfl (as_nilCheck rfl rfl) rfl rfl rfl ?_
 refine go_run' ttok 2 rfl (go_nil nd (then_norm (awp_seq (awp_go hmix (go_run' ttok 4 rfl (go_nil nd (then_norm (awp_ret ?_))))))))
 have e3 := of_some h
 subst e3
 refine ret_ret ?_
 exact finB [(1000, some 1000), (811, some 14)] ttok rfl rfl rfl rfl (wkP_refl _ rfl) ⟨⟨_, rfl, rfl, rfl, .inr ⟨⟨⟨⟨rfl, rfl, rfl⟩, ⟨rfl, rfl, (by first | rfl | (simp [setI]; done) | omega | (dsimp only; omega) | (simp [setI]; omega))⟩, trivial⟩, trivial⟩, ⟨rfl, trivial⟩⟩⟩, ⟨_, rfl, rfl, rfl, wkX_map (enc := U8) l (fun _ => rfl)⟩, trivial⟩
noncomputable def __strings_Builder__WriteString_s_c (N : Nat) (b_buf : (List Int)) (s : ByteArray) : Option (Int × (List Int)) :=
 (letB (__strings_Builder__copyCheck_s_g b_buf) (fun cv => (Option.bind (appO 1 cv (sbytes s)) (fun l => some (((s.size : Nat) : Int), l)))))
theorem __strings_Builder__WriteString_s_le (N : Nat) (b_buf : (List Int)) (s : ByteArray) : OLe (__strings_Builder__WriteString_s_c N b_buf s) (__strings_Builder__WriteString_s_g b_buf s) := by
 unfold __strings_Builder__WriteString_s_c __strings_Builder__WriteString_s_g
 repeat' (first | exact ole_rfl | refine ole_bif ?_ ?_ | refine ole_bind ?_ (fun _ => ?_) | refine ole_let (fun _ => ?_) | refine ole_map ?_ | refine ole_elim (fun _ => ?_) (fun _ => ?_) | refine ole_loop (fun _ => ?_))
noncomputable def wire_Int_g (n : Int) : Option ByteArray :=
 (bif (decide (n < 0)) then (Option.bind (wire_Uint_g (bOr .u64 (bShl .u64 (bNot .u64 (WU64 n)) 1) 1)) (fun uv => some uv)) else (Option.bind (wire_Uint_g (bShl .u64 (WU64 n) 1)) (fun uv1 => some uv1)))
theorem wire_Int_w (n : Int) (r : ByteArray) (h : wire_Int_g n = some r) : Holds Tryz.prog 105 [(I n)] [] (S r) [] := by
 unfold wire_Int_g at h
 refine holds_fn Tryz.func105 rfl Tryz.ntmps105 rfl rfl rfl (fun lim => ?_)
 refine awp_seq (awp_go hmix (go_run' ttok 1 rfl (go_nil nd (then_norm (awp_seq (awp_seq (awp_go hmix (go_run' ttok 2 rfl (go_nil nd (then_norm ?_))))))))))
 refine awp_cond (b := (decide (n < 0))) rfl (fun c1 => ?_) (fun c1 => ?_)
 ·replace h := of_bif_t h c1
  refine awp_seq (awp_go hmix (go_run' ttok 5 rfl ?_))
  obtain ⟨uv, hv2, h⟩ := of_obind h
  refine go_call fn103 (wire_Uint_w (bOr .u64 (bShl .u64 (bNot .u64 (WU64 n)) 1) 1) uv hv2) rfl rfl rfl rfl rfl rfl rfl ?_
  refine go_run' ttok 1 rfl (go_nil nd (then_norm (awp_ret (then_ret ?_))))
  have e3 := of_some h
  subst e3
  refine ret_ret ?_
  refine fin0 ttok rfl rfl ?_
  exact (wkP_refl _ rfl)
 ·replace h := of_bif_f h c1
  refine awp_skip (then_norm (awp_seq (awp_go hmix (go_run' ttok 3 rfl ?_))))
  obtain ⟨uv1, hv4, h⟩ := of_obind h
  refine go_call fn103 (wire_Uint_w (bShl .u64 (WU64 n) 1) uv1 hv4) rfl rfl rfl rfl rfl rfl rfl ?_
  refine go_run' ttok 1 rfl (go_nil nd (then_norm (awp_ret ?_)))
  have e5 := of_some h
  subst e5
  refine ret_ret ?_
  refine fin0 ttok rfl rfl ?_
  exact (wkP_refl _ rfl)
noncomputable def wire_Int_c (N : Nat) (n : Int) : Option ByteArray :=
 (bif (decide (n < 0)) then (Option.bind ((wire_Uint_c N) (bOr .u64 (bShl .u64 (bNot .u64 (WU64 n)) 1) 1)) (fun uv => some uv)) else (Option.bind ((wire_Uint_c N) (bShl .u64 (WU64 n) 1)) (fun uv1 => some uv1)))
theorem wire_Int_le (N : Nat) (n : Int) : OLe (wire_Int_c N n) (wire_Int_g n) := by
 unfold wire_Int_c wire_Int_g
 repeat' (first | exact ole_rfl | exact wire_Uint_le _ _ | refine ole_bif ?_ ?_ | refine ole_bind ?_ (fun _ => ?_) | refine ole_let (fun _ => ?_) | refine ole_map ?_ | refine ole_elim (fun _ => ?_) (fun _ => ?_) | refine ole_loop (fun _ => ?_))
noncomputable def __strings_Builder__String_s_g (b_buf : (List Int)) : Option ByteArray :=
 (bif (b_buf.length != 0) then (bif (Nat.ble b_buf.length 9223372036854775807) then (Option.bind (strO b_buf) (fun t => some t)) else none) else none)
theorem __strings_Builder__String_s_w (b_buf : (List Int)) (r : ByteArray) (h : __strings_Builder__String_s_g b_buf = some r) : Holds Tryz.prog 106 [(.ref 1000 0 0)] [(1000, some ⟨143, 2, [(.agg [(.ref 1000 0 0), (.arr 1101 0 b_buf.length)])]⟩), (1101, some ⟨5, 1, b_buf.map U8⟩)] (S r) [] := by
 unfold __strings_Builder__String_s_g at h
 refine holds_fn Tryz.func106 rfl Tryz.ntmps106 rfl rfl rfl (fun lim => ?_)
 refine awp_seq (awp_go hmix (go_run' ttok 1 rfl (go_nil nd (then_norm (awp_seq (awp_go hmix (go_run' ttok 1 rfl ?_)))))))
 refine go_step rfl (as_nilCheck rfl rfl) rfl rfl rfl ?_
 refine go_run' ttok 2 rfl ?_
 obtain ⟨hd1, h⟩ := of_grd h
 refine go_step rfl (as_sliceData rfl rfl rfl (by simpa using hd1)) rfl rfl rfl ?_
 refine go_run' ttok 1 rfl ?_
 refine go_step rfl (as_nilCheck rfl rfl) rfl rfl rfl ?_
 refine go_run' ttok 3 rfl ?_
 obtain ⟨hd2, h⟩ := of_grd h
 obtain ⟨t, hv3, h⟩ := of_obind h
 refine go_step rfl (as_unsafeString (n := b_buf.length) (ns := b_buf) rfl Tryz.underlying191 ty5_ok (by kernel_rfl) rfl rfl rfl rfl rfl rfl rfl hv3 (Nat.le_of_ble_eq_true hd2)) rfl rfl rfl ?_
 refine go_run' ttok 1 rfl ?_
 refine go_nil (fun _ => by kernel_rfl) ?_
 refine then_norm (awp_ret ?_)
 have e4 := of_some h
 subst e4
 refine ret_ret ?_
 exact finB [] ttok rfl rfl rfl rfl (wkP_refl _ rfl) trivial
noncomputable def __strings_Builder__String_s_c (N : Nat) (b_buf : (List Int)) : Option ByteArray :=
 (bif (b_buf.length != 0) then (bif (Nat.ble b_buf.length 9223372036854775807) then (Option.bind (strO b_buf) (fun t => some t)) else none) else none)
theorem __strings_Builder__String_s_le (N : Nat) (b_buf : (List Int)) : OLe (__strings_Builder__String_s_c N b_buf) (__strings_Builder__String_s_g b_buf) := by
 unfold __strings_Builder__String_s_c __strings_Builder__String_s_g
 repeat' (first | exact ole_rfl | refine ole_bif ?_ ?_ | refine ole_bind ?_ (fun _ => ?_) | refine ole_let (fun _ => ?_) | refine ole_map ?_ | refine ole_elim (fun _ => ?_) (fun _ => ?_) | refine ole_loop (fun _ => ?_))
noncomputable def wire_Ints_s1 (l : (List Int)) (vv : Int) (b1 : (List Int)) : Option ((Int × (List Int)) ⊕ (List Int)) :=
 (bif (decide (vv < ((l.length : Nat) : Int))) then (Option.bind (getI l vv) (fun e => (Option.bind (wire_Int_g e) (fun iv => (Option.bind (__strings_Builder__WriteString_s_g b1 iv) (fun wv1 => some (Sum.inl ((W64 (vv + 1)), wv1.2)))))))) else some (Sum.inr b1))
noncomputable def wire_Ints_g (l : (List Int)) : Option ByteArray :=
 (Option.bind (wire_Uint_g (WU64 ((l.length : Nat) : Int))) (fun uv => (Option.bind (__strings_Builder__WriteString_n_g [] uv) (fun wv => (Option.bind ((loopO (fun q => wire_Ints_s1 l q.1 q.2) (0, wv.2)) : Option (List Int)) (fun b => (Option.bind (__strings_Builder__String_s_g b) (fun sv => some sv))))))))
theorem wire_Ints_w (l : (List Int)) (r : ByteArray) (h : wire_Ints_g l = some r) : Holds Tryz.prog 54 [((encL I) l)] [] (S r) [] := by
 unfold wire_Ints_g at h
 refine holds_fn Tryz.func54 rfl Tryz.ntmps54 rfl rfl rfl (fun lim => ?_)
 refine awp_seq (awp_go hmix (go_run' ttok 1 rfl (go_nil nd (then_norm (awp_seq (awp_go hmix (go_run' ttok 1 rfl (go_nil nd (then_norm (awp_seq (awp_go hmix (go_run' ttok 1 rfl ?_))))))))))))
 refine go_lenT I l ttok rfl rfl rfl rfl rfl rfl ?_
 refine go_run' ttok 1 rfl ?_
 obtain ⟨uv, hv1, h⟩ := of_obind h
 refine go_call fn103 (wire_Uint_w (WU64 ((l.length : Nat) : Int)) uv hv1) rfl rfl rfl rfl rfl rfl rfl ?_
 obtain ⟨wv, hv2, h⟩ := of_obind h
 refine go_callM (.tup [(I wv.1), (.sc .nilIface)]) [] [(3, some ⟨143, 2, [(.agg [(.ref 3 0 0), (.arr 600 0 wv.2.length)])]⟩), (600, some ⟨5, 1, wv.2.map U8⟩)] [(1000, some 3), (1101, none)] [(3, some 1000), (600, some 811)] fn104 (__strings_Builder__WriteString_n_w [] uv wv hv2) rfl rfl rfl rfl rfl trivial ⟨⟨rfl, rfl, rfl⟩, (wkP_refl _ rfl), trivial⟩ rfl rfl ⟨⟨_, rfl, rfl, rfl, .inr ⟨⟨⟨wkP_id _ rfl, ⟨rfl, rfl, (by first | rfl | (simp [setI]; done) | omega | (dsimp only; omega) | (simp [setI]; omega))⟩, trivial⟩, trivial⟩, ⟨rfl, trivial⟩⟩⟩, rfl, trivial⟩ rfl rfl ⟨⟨_, rfl, rfl, rfl, .inr ⟨⟨⟨⟨rfl, rfl, rfl⟩, ⟨rfl, rfl, (by first | rfl | (simp [setI]; done) | omega | (dsimp only; omega) | (simp [setI]; omega))⟩, trivial⟩, trivial⟩, ⟨rfl, trivial⟩⟩⟩, ⟨_, rfl, rfl, rfl, wkX_map (enc := U8) wv.2 (fun _ => rfl)⟩, trivial⟩ (wkP_refl _ rfl) rfl (fun h => absurd rfl h) rfl rfl rfl ?_
 refine go_nil nd (then_norm ?_)
 obtain ⟨y, hx3, h⟩ := of_obind h
 refine awp_seqJ (X := (List Int)) [3] [] (fun w => []) (fun w => [(600, some ⟨5, 1, w.map U8⟩), (3, some ⟨143, 2, [(.agg [(.ref 3 0 0), (.arr 600 0 w.length)])]⟩)]) (fun w => w = y) rfl rfl ?_ ?_
 ·skip
  refine awp_seq (awp_go hmix (go_run' ttok 1 rfl ?_))
  refine go_lenT I l ttok rfl rfl rfl rfl rfl rfl ?_
  refine go_run' ttok 1 rfl (go_nil nd (then_norm (awp_block ?_)))
  refine awp_loopD (X := (Int × (List Int))) (Y := (List Int)) [3, 11, 12] [] (fun q => [(13, (I q.1))]) (fun q => [(600, some ⟨5, 1, q.2.map U8⟩), (3, some ⟨143, 2, [(.agg [(.ref 3 0 0), (.arr 600 0 q.2.length)])]⟩)]) (fun q => wire_Ints_s1 l q.1 q.2) (0, wv.2) [(600, some 600), (3, some 3)] hx3 ⟨rfl, rfl, rfl, rfl, rfl, ⟨wkP_id _ rfl, trivial⟩, ⟨⟨_, rfl, rfl, rfl, wkX_map (enc := U8) wv.2 (fun _ => rfl)⟩, ⟨_, rfl, rfl, rfl, .inr ⟨⟨⟨wkP_id _ rfl, ⟨rfl, rfl, (by first | rfl | (simp [setI]; done) | omega | (dsimp only; omega) | (simp [setI]; omega))⟩, trivial⟩, trivial⟩, ⟨rfl, trivial⟩⟩⟩, trivial⟩⟩ (fun x vR vz hz5 hk6 => ?_)
  obtain ⟨vv, b1⟩ := x
  change wire_Ints_s1 l vv b1 = _ at hz5
  unfold wire_Ints_s1 at hz5
  refine awp_seq (awp_go hmix (go_run' ttok 1 rfl (go_nil nd (then_norm (awp_seq ?_)))))
  refine awp_cond (b := (decide (vv < ((l.length : Nat) : Int)))) rfl (fun c7 => ?_) (fun c7 => ?_)
  ·replace hz5 := of_bif_t hz5 c7
   refine awp_skip (then_norm (awp_seq (awp_block (awp_seq (awp_go hmix ?_)))))
   obtain ⟨e, hv8, hz5⟩ := of_obind hz5
   refine go_indexT I l vv e hv8 ttok rfl rfl rfl rfl rfl rfl rfl rfl rfl ?_
   refine go_run' ttok 2 rfl (go_nil nd (then_norm (awp_go hmix (go_run' ttok 1 rfl ?_))))
   obtain ⟨iv, hv9, hz5⟩ := of_obind hz5
   refine go_call fn105 (wire_Int_w e iv hv9) rfl rfl rfl rfl rfl rfl rfl ?_
   obtain ⟨wv1, hv10, hz5⟩ := of_obind hz5
   refine go_callM (.tup [(I wv1.1), (.sc .nilIface)]) [] [(3, some ⟨143, 2, [(.agg [(.ref 3 0 0), (.arr 601 0 wv1.2.length)])]⟩), (601, some ⟨5, 1, wv1.2.map U8⟩)] [(1000, some 3), (1101, some 600)] [(3, some 1000), (601, some 811)] fn104 (__strings_Builder__WriteString_s_w b1 iv wv1 hv10) rfl rfl rfl rfl rfl trivial ⟨⟨rfl, rfl, rfl⟩, (wkP_refl _ rfl), trivial⟩ rfl rfl ⟨⟨_, rfl, rfl, rfl, .inr ⟨⟨⟨⟨rfl, rfl, rfl⟩, ⟨rfl, rfl, (by first | rfl | (simp [setI]; done) | omega | (dsimp only; omega) | (simp [setI]; omega))⟩, trivial⟩, trivial⟩, ⟨rfl, trivial⟩⟩⟩, ⟨_, rfl, rfl, rfl, wkX_map (enc := U8) b1 (fun _ => rfl)⟩, trivial⟩ rfl rfl ⟨⟨_, rfl, rfl, rfl, .inr ⟨⟨⟨⟨rfl, rfl, rfl⟩, ⟨rfl, rfl, (by first | rfl | (simp [setI]; done) | omega | (dsimp only; omega) | (simp [setI]; omega))⟩, trivial⟩, trivial⟩, ⟨rfl, trivial⟩⟩⟩, ⟨_, rfl, rfl, rfl, wkX_map (enc := U8) wv1.2 (fun _ => rfl)⟩, trivial⟩ (wkP_refl _ rfl) rfl (fun h => absurd rfl h) rfl rfl rfl ?_
   refine go_nil nd (block_norm (then_norm (awp_go hmix (go_run' ttok 2 rfl (go_nil nd ?_)))))
   have e11 := of_some hz5
   subst e11
   refine then_norm ⟨rfl, ((W64 (vv + 1)), wv1.2), [(600, some 601), (3, some 3)], ⟨rfl, rfl, rfl, rfl, rfl, ⟨wkP_id _ rfl, trivial⟩, ⟨⟨_, rfl, rfl, rfl, wkX_map (enc := U8) wv1.2 (fun _ => rfl)⟩, ⟨_, rfl, rfl, rfl, .inr ⟨⟨⟨wkP_id _ rfl, ⟨rfl, rfl, (by first | rfl | (simp [setI]; done) | omega | (dsimp only; omega) | (simp [setI]; omega))⟩, trivial⟩, trivial⟩, ⟨rfl, trivial⟩⟩⟩, trivial⟩⟩, hk6⟩
  ·replace hz5 := of_bif_f hz5 c7
   refine awp_exit (then_exit ?_)
   obtain ⟨t, hn12, hq⟩ := of_mapr' hz5
   subst hq
   have hq : t = _ := hk6
   subst hq
   refine then_exit (block_here ?_)
   have e13 := of_some hn12
   refine then_norm ⟨rfl, b1, [(600, some 600), (3, some 3)], ⟨rfl, rfl, rfl, rfl, rfl, trivial, ⟨⟨_, rfl, rfl, rfl, wkX_map (enc := U8) b1 (fun _ => rfl)⟩, ⟨_, rfl, rfl, rfl, .inr ⟨⟨⟨wkP_id _ rfl, ⟨rfl, rfl, (by first | rfl | (simp [setI]; done) | omega | (dsimp only; omega) | (simp [setI]; omega))⟩, trivial⟩, trivial⟩, ⟨rfl, trivial⟩⟩⟩, trivial⟩⟩, e13⟩
 ·intro b hw4
  subst hw4
  refine awp_seq (awp_go hmix ?_)
  obtain ⟨sv, hv14, h⟩ := of_obind h
  refine go_callM (S sv) [] [] [(1000, some 3), (1101, some 600)] [] fn106 (__strings_Builder__String_s_w b sv hv14) rfl rfl rfl rfl rfl trivial ⟨⟨rfl, rfl, rfl⟩, trivial⟩ rfl rfl ⟨⟨_, rfl, rfl, rfl, .inr ⟨⟨⟨⟨rfl, rfl, rfl⟩, ⟨rfl, rfl, (by first | rfl | (simp [setI]; done) | omega | (dsimp only; omega) | (simp [setI]; omega))⟩, trivial⟩, trivial⟩, ⟨rfl, trivial⟩⟩⟩, ⟨_, rfl, rfl, rfl, wkX_map (enc := U8) b (fun _ => rfl)⟩, trivial⟩ rfl rfl trivial (wkP_refl _ rfl) rfl (fun h => absurd rfl h) rfl rfl rfl ?_
  refine go_run' ttok 1 rfl (go_nil nd (then_norm (awp_ret ?_)))
  have e15 := of_some h
  subst e15
  refine ret_ret ?_
  refine fin0 ttok rfl rfl ?_
  exact (wkP_refl _ rfl)
noncomputable def wire_Ints_cs1 (N : Nat) (l : (List Int)) (vv : Int) (b1 : (List Int)) : Option ((Int × (List Int)) ⊕ (List Int)) :=
 (bif (decide (vv < ((l.length : Nat) : Int))) then (Option.bind (getI l vv) (fun e => (Option.bind ((wire_Int_c N) e) (fun iv => (Option.bind ((__strings_Builder__WriteString_s_c N) b1 iv) (fun wv1 => some (Sum.inl ((W64 (vv + 1)), wv1.2)))))))) else some (Sum.inr b1))
theorem wire_Ints_cs1_le (N : Nat) (l : (List Int)) (vv : Int) (b1 : (List Int)) : OLe (wire_Ints_cs1 N l vv b1) (wire_Ints_s1 l vv b1) := by
 unfold wire_Ints_cs1 wire_Ints_s1
 repeat' (first | exact ole_rfl | exact wire_Uint_le _ _ | exact __strings_Builder__WriteString_n_le _ _ _ | exact __strings_Builder__String_s_le _ _ | exact wire_Int_le _ _ | exact __strings_Builder__WriteString_s_le _ _ _ | refine ole_bif ?_ ?_ | refine ole_bind ?_ (fun _ => ?_) | refine ole_let (fun _ => ?_) | refine ole_map ?_ | refine ole_elim (fun _ => ?_) (fun _ => ?_) | refine ole_loop (fun _ => ?_))
noncomputable def wire_Ints_c (N : Nat) (l : (List Int)) : Option ByteArray :=
 (Option.bind ((wire_Uint_c N) (WU64 ((l.length : Nat) : Int))) (fun uv => (Option.bind ((__strings_Builder__WriteString_n_c N) [] uv) (fun wv => (Option.bind ((iterX N (fun q => wire_Ints_cs1 N l q.1 q.2) (0, wv.2)) : Option (List Int)) (fun b => (Option.bind ((__strings_Builder__String_s_c N) b) (fun sv => some sv))))))))
theorem wire_Ints_le (N : Nat) (l : (List Int)) : OLe (wire_Ints_c N l) (wire_Ints_g l) := by
 unfold wire_Ints_c wire_Ints_g
 repeat' (first | exact ole_rfl | exact wire_Uint_le _ _ | exact __strings_Builder__WriteString_n_le _ _ _ | exact __strings_Builder__String_s_le _ _ | exact wire_Int_le _ _ | exact __strings_Builder__WriteString_s_le _ _ _ | exact wire_Ints_cs1_le _ _ _ _ | refine ole_bif ?_ ?_ | refine ole_bind ?_ (fun _ => ?_) | refine ole_let (fun _ => ?_) | refine ole_map ?_ | refine ole_elim (fun _ => ?_) (fun _ => ?_) | refine ole_loop (fun _ => ?_))
noncomputable def board_Encode_s2 (e : (List Int)) (vv1 : Int) : Option (Int ⊕ ((Int ⊕ ((ByteArray × Int) ⊕ Unit)) ⊕ Unit)) :=
 (bif (decide (vv1 < ((e.length : Nat) : Int))) then (Option.bind (getI e vv1) (fun e1 => (bif (decide (e1 < (-1099511627776))) then some (Sum.inr (Sum.inl (Sum.inr (Sum.inl ((⟨#[]⟩ : ByteArray), 9))))) else (bif (decide (1099511627776 < e1)) then some (Sum.inr (Sum.inl (Sum.inr (Sum.inl ((⟨#[]⟩ : ByteArray), 9))))) else some (Sum.inl (W64 (vv1 + 1))))))) else some (Sum.inr (Sum.inr ())))
noncomputable def board_Encode_s1 (pv : (List Int)) (pv1 : (List Int)) (vv : Int) : Option (Int ⊕ ((ByteArray × Int) ⊕ Unit)) :=
 (bif (decide (vv < 2)) then (Option.bind ((Option.bind (getI [pv, pv1] vv) (fun e => (loopO (fun q => board_Encode_s2 e q) 0))) : Option ((Int ⊕ ((ByteArray × Int) ⊕ Unit)) ⊕ Unit)) (Sum.elim (fun q => some q) (fun _ => some (Sum.inl (W64 (vv + 1)))))) else some (Sum.inr (Sum.inr ())))
noncomputable def board_Encode_g (b : TBoard) : Option (ByteArray × Int) :=
 (bif (decide (16 < ((b.Id.size : Nat) : Int))) then some ((⟨#[]⟩ : ByteArray), 6) else (bif (decide (16 < ((b.Log.size : Nat) : Int))) then some ((⟨#[]⟩ : ByteArray), 6) else (bif (decide (16 < ((b.Species.size : Nat) : Int))) then some ((⟨#[]⟩ : ByteArray), 6) else (bif (decide (64 < ((b.Defects.length : Nat) : Int))) then some ((⟨#[]⟩ : ByteArray), 4) else (Option.bind (board_putBoard_L_g [] b) (fun pv => (Option.bind (board_putDefects_L_g [] b.Defects) (fun pv1 => (Option.bind ((loopO (fun q => board_Encode_s1 pv pv1 q) 0) : Option ((ByteArray × Int) ⊕ Unit)) (Sum.elim (fun q => some q) (fun _ => (Option.bind (wire_Text_g b.Id) (fun tv => (Option.bind (wire_Text_g b.Log) (fun tv1 => (Option.bind (catO tv tv1) (fun t10 => (Option.bind (wire_Text_g b.Species) (fun tv2 => (Option.bind (catO t10 tv2) (fun t11 => (Option.bind (wire_Ints_g pv) (fun iv => (Option.bind (catO t11 iv) (fun t12 => (Option.bind (wire_Ints_g pv1) (fun iv1 => (Option.bind (catO t12 iv1) (fun t13 => some (t13, 0))))))))))))))))))))))))))))))
theorem board_Encode_w (b : TBoard) (r : (ByteArray × Int)) (h : board_Encode_g b = some r) : Holds Tryz.prog 16 [(encTBoard b)] [] (.tup [(S r.1), (I r.2)]) [] := by
 unfold board_Encode_g at h
 refine holds_fn Tryz.func16 rfl Tryz.ntmps16 rfl rfl rfl (fun lim => ?_)
 refine awp_seq (awp_go hmix (go_run' ttok 3 rfl (go_nil nd (then_norm (awp_seq (awp_seq (awp_go hmix (go_run' ttok 5 rfl ?_))))))))
 refine go_gcase rfl rfl rfl (fun g1 => ?_) (fun g1 => ?_)
 ·rw [g1]
  replace h := of_bif_t h g1
  refine go_run' ttok 11 rfl (go_nil nd (then_norm ?_))
  refine awp_cond rfl (fun tt0 => ?_) (fun h => by cases h)
  clear tt0
  refine awp_seq (awp_go hmix (go_run' ttok 2 rfl (go_nil nd (then_norm (awp_ret (then_ret ?_))))))
  have e2 := of_some h
  subst e2
  refine ret_ret ?_
  refine fin0 ttok rfl rfl ?_
  exact wkP_refl _ rfl
 ·rw [g1]
  replace h := of_bif_f h g1
  refine go_run' ttok 6 rfl ?_
  refine go_gcase rfl rfl rfl (fun g3 => ?_) (fun g3 => ?_)
  ·rw [g3]
   replace h := of_bif_t h g3
   refine go_run' ttok 5 rfl (go_nil nd (then_norm ?_))
   refine awp_cond rfl (fun tt0 => ?_) (fun h => by cases h)
   clear tt0
   refine awp_seq (awp_go hmix (go_run' ttok 2 rfl (go_nil nd (then_norm (awp_ret (then_ret ?_))))))
   have e4 := of_some h
   subst e4
   refine ret_ret ?_
   refine fin0 ttok rfl rfl ?_
   exact wkP_refl _ rfl
  ·rw [g3]
   replace h := of_bif_f h g3
   refine go_run' ttok 5 rfl (go_nil nd (then_norm ?_))
   refine awp_cond (b := (decide (16 < ((b.Species.size : Nat) : Int)))) rfl (fun c5 => ?_) (fun c5 => ?_)
   ·replace h := of_bif_t h c5
    refine awp_seq (awp_go hmix (go_run' ttok 2 rfl (go_nil nd (then_norm (awp_ret (then_ret ?_))))))
    have e6 := of_some h
    subst e6
    refine ret_ret ?_
    refine fin0 ttok rfl rfl ?_
    exact wkP_refl _ rfl
   ·replace h := of_bif_f h c5
    refine awp_skip (then_norm (awp_seq (awp_seq (awp_go hmix (go_run' ttok 2 rfl ?_)))))
    refine go_lenT encDf b.Defects ttok rfl rfl rfl rfl rfl rfl ?_
    refine go_run' ttok 1 rfl (go_nil nd (then_norm ?_))
    refine awp_cond (b := (decide (64 < ((b.Defects.length : Nat) : Int)))) rfl (fun c7 => ?_) (fun c7 => ?_)
    ·replace h := of_bif_t h c7
     refine awp_seq (awp_go hmix (go_run' ttok 2 rfl (go_nil nd (then_norm (awp_ret (then_ret ?_))))))
     have e8 := of_some h
     subst e8
     refine ret_ret ?_
     refine fin0 ttok rfl rfl ?_
     exact wkP_refl _ rfl
    ·replace h := of_bif_f h c7
     refine awp_skip (then_norm (awp_seq (awp_go hmix (go_run' ttok 2 rfl (go_nil nd (then_norm (awp_seq (awp_go hmix (go_run' ttok 2 rfl ?_)))))))))
     obtain ⟨pv, hv9, h⟩ := of_obind h
     refine go_callM (.tup []) [] [(4, some ⟨86, 1, [(.agg [(.arr 600 0 pv.length)])]⟩), (600, some ⟨3, 1, pv.map I⟩)] [(1000, some 4), (1100, none)] [(4, some 1000), (600, some 810)] fn50 (board_putBoard_L_w [] b pv hv9) rfl rfl rfl rfl rfl trivial ⟨⟨rfl, ⟨⟨rfl, rfl, rfl⟩, trivial⟩, trivial⟩, (wkP_refl _ rfl), trivial⟩ rfl rfl ⟨⟨_, rfl, rfl, rfl, .inr ⟨⟨⟨⟨rfl, rfl, (by first | rfl | (simp [setI]; done) | omega | (dsimp only; omega) | (simp [setI]; omega))⟩, trivial⟩, trivial⟩, ⟨rfl, trivial⟩⟩⟩, rfl, trivial⟩ rfl rfl ⟨⟨_, rfl, rfl, rfl, .inr ⟨⟨⟨⟨rfl, rfl, (by first | rfl | (simp [setI]; done) | omega | (dsimp only; omega) | (simp [setI]; omega))⟩, trivial⟩, trivial⟩, ⟨rfl, trivial⟩⟩⟩, ⟨_, rfl, rfl, rfl, wkX_map (enc := I) pv (fun _ => rfl)⟩, trivial⟩ (wkP_refl _ rfl) rfl (fun h => absurd rfl h) rfl rfl rfl ?_
     refine go_nil nd (then_norm (awp_seq (awp_go hmix (go_run' ttok 3 rfl ?_))))
     obtain ⟨pv1, hv10, h⟩ := of_obind h
     refine go_callM (.tup []) [] [(5, some ⟨86, 1, [(.agg [(.arr 601 0 pv1.length)])]⟩), (601, some ⟨3, 1, pv1.map I⟩)] [(1000, some 5), (1100, none)] [(5, some 1000), (601, some 810)] fn52 (board_putDefects_L_w [] b.Defects pv1 hv10) rfl rfl rfl rfl rfl trivial ⟨⟨rfl, ⟨⟨rfl, rfl, rfl⟩, trivial⟩, trivial⟩, (wkP_refl _ rfl), trivial⟩ rfl rfl ⟨⟨_, rfl, rfl, rfl, .inr ⟨⟨⟨⟨rfl, rfl, (by first | rfl | (simp [setI]; done) | omega | (dsimp only; omega) | (simp [setI]; omega))⟩, trivial⟩, trivial⟩, ⟨rfl, trivial⟩⟩⟩, rfl, trivial⟩ rfl rfl ⟨⟨_, rfl, rfl, rfl, .inr ⟨⟨⟨⟨rfl, rfl, (by first | rfl | (simp [setI]; done) | omega | (dsimp only; omega) | (simp [setI]; omega))⟩, trivial⟩, trivial⟩, ⟨rfl, trivial⟩⟩⟩, ⟨_, rfl, rfl, rfl, wkX_map (enc := I) pv1 (fun _ => rfl)⟩, trivial⟩ (wkP_refl _ rfl) rfl (fun h => absurd rfl h) rfl rfl rfl ?_
     refine go_nil nd (then_norm ?_)
     obtain ⟨y, hx11, h⟩ := of_obind h
     refine awp_seqJ (X := Unit) [1, 4, 5] [1] (fun _ => []) (fun _ => [(4, some ⟨86, 1, [(.agg [(encL I pv)])]⟩), (5, some ⟨86, 1, [(.agg [(encL I pv1)])]⟩)]) (fun w => Sum.inr w = y) rfl rfl ?_ ?_
     ·skip
      refine awp_seq ?_
      refine awp_freezeM [1, 4, 5] [1] [(600, some ⟨3, 1, pv.map I⟩), (601, some ⟨3, 1, pv1.map I⟩)] [(4, some 4), (5, some 5), (1, some 1)] [] [(4, some ⟨86, 1, [(.agg [(encL I pv)])]⟩), (5, some ⟨86, 1, [(.agg [(encL I pv1)])]⟩)] rfl rfl rfl rfl rfl ⟨rfl, by decide, rfl, by decide, trivial⟩ trivial ⟨⟨_, rfl, rfl, rfl, .inr ⟨⟨⟨(wkP_lend rfl (by first | rfl | (simp [setI]; done) | omega | (dsimp only; omega) | (simp [setI]; omega)) (fun _ => rfl)), trivial⟩, trivial⟩, ⟨rfl, trivial⟩⟩⟩, ⟨_, rfl, rfl, rfl, .inr ⟨⟨⟨(wkP_lend rfl (by first | rfl | (simp [setI]; done) | omega | (dsimp only; omega) | (simp [setI]; omega)) (fun _ => rfl)), trivial⟩, trivial⟩, ⟨rfl, trivial⟩⟩⟩, trivial⟩ ?_
      refine awp_go hmix (go_run' ttok 6 rfl (go_nil nd (then_norm (awp_block ?_))))
      refine awp_loopD (X := Int) (Y := ((ByteArray × Int) ⊕ Unit)) [1, 4, 5, 41] [1, 4, 5] (fun q => [(42, (I q))]) (fun q => []) (fun q => board_Encode_s1 pv pv1 q) 0 [(1, some 1), (4, some 4), (5, some 5)] hx11 ⟨rfl, rfl, rfl, rfl, rfl, ⟨wkP_id _ rfl, trivial⟩, trivial⟩ (fun vv vR vz hz13 hk14 => ?_)
      change board_Encode_s1 pv pv1 vv = _ at hz13
      unfold board_Encode_s1 at hz13
      refine awp_seq (awp_go hmix (go_run' ttok 1 rfl (go_nil nd (then_norm (awp_seq ?_)))))
      refine awp_cond (b := (decide (vv < 2))) rfl (fun c15 => ?_) (fun c15 => ?_)
      ·replace hz13 := of_bif_t hz13 c15
       refine awp_skip (then_norm ?_)
       obtain ⟨y1, hx16, hz13⟩ := of_obind hz13
       refine awp_seqJ (X := Unit) [1, 4, 5, 41, 42] [1, 4, 5] (fun _ => []) (fun _ => []) (fun w1 => Sum.inr w1 = y1) rfl rfl ?_ ?_
       ·skip
        refine awp_block (awp_seq (awp_go hmix ?_))
        obtain ⟨e, hv18, hx16⟩ := of_obind hx16
        refine go_indexVT (encL I) [pv, pv1] vv e hv18 rfl (by intro j el hj; match j, hj with | 0, hj => (cases hj; rfl) | 1, hj => (cases hj; rfl) | (_ + 2), hj => (exact absurd hj (by simp))) ttok rfl rfl rfl rfl rfl rfl rfl rfl ?_
        refine go_run' ttok 1 rfl (go_nil nd (then_norm (awp_seq (awp_go hmix (go_run' ttok 1 rfl ?_)))))
        refine go_lenT I e ttok rfl rfl rfl rfl rfl rfl ?_
        refine go_run' ttok 1 rfl (go_nil nd (then_norm (awp_block ?_)))
        refine awp_loopD (X := Int) (Y := ((Int ⊕ ((ByteArray × Int) ⊕ Unit)) ⊕ Unit)) [1, 4, 5, 41, 42, 45, 46] [1, 4, 5] (fun q => [(47, (I q))]) (fun q => []) (fun q => board_Encode_s2 e q) 0 [(1, some 1), (4, some 4), (5, some 5)] hx16 ⟨rfl, rfl, rfl, rfl, rfl, ⟨wkP_id _ rfl, trivial⟩, trivial⟩ (fun vv1 vR1 vz1 hz19 hk20 => ?_)
        change board_Encode_s2 e vv1 = _ at hz19
        unfold board_Encode_s2 at hz19
        refine awp_seq (awp_go hmix (go_run' ttok 1 rfl (go_nil nd (then_norm (awp_seq ?_)))))
        refine awp_cond (b := (decide (vv1 < ((e.length : Nat) : Int)))) rfl (fun c21 => ?_) (fun c21 => ?_)
        ·replace hz19 := of_bif_t hz19 c21
         refine awp_skip (then_norm (awp_seq (awp_block (awp_seq (awp_go hmix ?_)))))
         obtain ⟨e1, hv22, hz19⟩ := of_obind hz19
         refine go_indexT I e vv1 e1 hv22 ttok rfl rfl rfl rfl rfl rfl rfl rfl rfl ?_
         refine go_run' ttok 2 rfl (go_nil nd (then_norm (awp_seq (awp_go hmix (go_run' ttok 3 rfl ?_)))))
         refine go_gcase rfl rfl rfl (fun g23 => ?_) (fun g23 => ?_)
         ·rw [g23]
          replace hz19 := of_bif_t hz19 g23
          refine go_run' ttok 3 rfl (go_nil nd (then_norm ?_))
          refine awp_cond rfl (fun tt0 => ?_) (fun h => by cases h)
          clear tt0
          refine awp_seq (awp_go hmix (go_run' ttok 2 rfl (go_nil nd (then_norm (awp_ret (block_ret (then_ret ?_)))))))
          obtain ⟨t, hn24, hq⟩ := of_mapr' hz19
          subst hq
          have hq : t = _ := hk20
          subst hq
          refine then_ret (block_ret (block_ret ?_))
          obtain ⟨t1, hn25, hq⟩ := of_mapl' hn24
          subst hq
          have hq := of_inl hz13
          replace hq := of_some hq
          subst hq
          refine then_ret ?_
          obtain ⟨t2, hn26, hq⟩ := of_mapr' hn25
          subst hq
          have hq : t2 = _ := hk14
          subst hq
          refine then_ret (block_ret ?_)
          obtain ⟨t3, hn27, hq⟩ := of_mapl' hn26
          subst hq
          have hq := of_inl h
          replace hq := of_some hq
          subst hq
          refine then_ret ?_
          have e28 := of_some hn27
          subst e28
          refine ret_ret ?_
          refine fin0 ttok rfl rfl ?_
          exact wkP_refl _ rfl
         ·rw [g23]
          replace hz19 := of_bif_f hz19 g23
          refine go_run' ttok 3 rfl (go_nil nd (then_norm ?_))
          refine awp_cond (b := (decide (1099511627776 < e1))) rfl (fun c29 => ?_) (fun c29 => ?_)
          ·replace hz19 := of_bif_t hz19 c29
           refine awp_seq (awp_go hmix (go_run' ttok 2 rfl (go_nil nd (then_norm (awp_ret (block_ret (then_ret ?_)))))))
           obtain ⟨t4, hn30, hq⟩ := of_mapr' hz19
           subst hq
           have hq : t4 = _ := hk20
           subst hq
           refine then_ret (block_ret (block_ret ?_))
           obtain ⟨t5, hn31, hq⟩ := of_mapl' hn30
           subst hq
           have hq := of_inl hz13
           replace hq := of_some hq
           subst hq
           refine then_ret ?_
           obtain ⟨t6, hn32, hq⟩ := of_mapr' hn31
           subst hq
           have hq : t6 = _ := hk14
           subst hq
           refine then_ret (block_ret ?_)
           obtain ⟨t7, hn33, hq⟩ := of_mapl' hn32
           subst hq
           have hq := of_inl h
           replace hq := of_some hq
           subst hq
           refine then_ret ?_
           have e34 := of_some hn33
           subst e34
           refine ret_ret ?_
           refine fin0 ttok rfl rfl ?_
           exact wkP_refl _ rfl
          ·replace hz19 := of_bif_f hz19 c29
           refine awp_skip (block_norm (then_norm (awp_go hmix (go_run' ttok 2 rfl (go_nil nd ?_)))))
           have e35 := of_some hz19
           subst e35
           refine then_norm ⟨rfl, (W64 (vv1 + 1)), [(1, some 1), (4, some 4), (5, some 5)], ⟨rfl, rfl, rfl, rfl, rfl, ⟨wkP_id _ rfl, trivial⟩, trivial⟩, hk20⟩
        ·replace hz19 := of_bif_f hz19 c21
         refine awp_exit (then_exit ?_)
         obtain ⟨t8, hn36, hq⟩ := of_mapr' hz19
         subst hq
         have hq : t8 = _ := hk20
         subst hq
         refine then_exit (block_here (block_norm ?_))
         have e37 := of_some hn36
         refine then_norm ⟨rfl, (), [(1, some 1), (4, some 4), (5, some 5)], ⟨rfl, rfl, rfl, rfl, rfl, trivial, trivial⟩, e37⟩
       ·intro w1 hw17
        subst hw17
        replace hz13 := of_inr hz13
        refine awp_go hmix (go_run' ttok 2 rfl (go_nil nd ?_))
        have e38 := of_some hz13
        subst e38
        refine then_norm ⟨rfl, (W64 (vv + 1)), [(1, some 1), (4, some 4), (5, some 5)], ⟨rfl, rfl, rfl, rfl, rfl, ⟨wkP_id _ rfl, trivial⟩, trivial⟩, hk14⟩
      ·replace hz13 := of_bif_f hz13 c15
       refine awp_exit (then_exit ?_)
       obtain ⟨t9, hn39, hq⟩ := of_mapr' hz13
       subst hq
       have hq : t9 = _ := hk14
       subst hq
       refine then_exit (block_here ?_)
       have e40 := of_some hn39
       refine then_norm ⟨rfl, (), [(4, some 4), (5, some 5), (1, some 1)], ⟨rfl, rfl, rfl, rfl, rfl, trivial, ⟨⟨_, rfl, rfl, rfl, .inl ⟨rfl, nr_one rfl⟩⟩, ⟨_, rfl, rfl, rfl, .inl ⟨rfl, nr_one rfl⟩⟩, trivial⟩⟩, e40⟩
     ·intro w hw12
      subst hw12
      replace h := of_inr h
      refine awp_seq (awp_go hmix (go_run' ttok 2 rfl ?_))
      obtain ⟨tv, hv41, h⟩ := of_obind h
      refine go_call fn53 (wire_Text_w b.Id tv hv41) rfl rfl rfl rfl rfl rfl rfl ?_
      refine go_run' ttok 2 rfl ?_
      obtain ⟨tv1, hv42, h⟩ := of_obind h
      refine go_call fn53 (wire_Text_w b.Log tv1 hv42) rfl rfl rfl rfl rfl rfl rfl ?_
      obtain ⟨t10, hv43, h⟩ := of_obind h
      refine go_catT tv tv1 t10 hv43 rfl rfl rfl rfl rfl ?_
      refine go_run' ttok 2 rfl ?_
      obtain ⟨tv2, hv44, h⟩ := of_obind h
      refine go_call fn53 (wire_Text_w b.Species tv2 hv44) rfl rfl rfl rfl rfl rfl rfl ?_
      obtain ⟨t11, hv45, h⟩ := of_obind h
      refine go_catT t10 tv2 t11 hv45 rfl rfl rfl rfl rfl ?_
      refine go_run' ttok 2 rfl ?_
      obtain ⟨iv, hv46, h⟩ := of_obind h
      refine go_call fn54 (wire_Ints_w pv iv hv46) rfl rfl rfl rfl rfl rfl rfl ?_
      obtain ⟨t12, hv47, h⟩ := of_obind h
      refine go_catT t11 iv t12 hv47 rfl rfl rfl rfl rfl ?_
      refine go_run' ttok 2 rfl ?_
      obtain ⟨iv1, hv48, h⟩ := of_obind h
      refine go_call fn54 (wire_Ints_w pv1 iv1 hv48) rfl rfl rfl rfl rfl rfl rfl ?_
      obtain ⟨t13, hv49, h⟩ := of_obind h
      refine go_catT t12 iv1 t13 hv49 rfl rfl rfl rfl rfl ?_
      refine go_run' ttok 2 rfl ?_
      refine go_nil (fun _ => by kernel_rfl) ?_
      refine then_norm (awp_ret ?_)
      have e50 := of_some h
      subst e50
      refine ret_ret ?_
      refine fin0 ttok rfl rfl ?_
      exact wkP_refl _ rfl
noncomputable def board_Encode_cs2 (N : Nat) (e : (List Int)) (vv1 : Int) : Option (Int ⊕ ((Int ⊕ ((ByteArray × Int) ⊕ Unit)) ⊕ Unit)) :=
 (bif (decide (vv1 < ((e.length : Nat) : Int))) then (Option.bind (getI e vv1) (fun e1 => (bif (decide (e1 < (-1099511627776))) then some (Sum.inr (Sum.inl (Sum.inr (Sum.inl ((⟨#[]⟩ : ByteArray), 9))))) else (bif (decide (1099511627776 < e1)) then some (Sum.inr (Sum.inl (Sum.inr (Sum.inl ((⟨#[]⟩ : ByteArray), 9))))) else some (Sum.inl (W64 (vv1 + 1))))))) else some (Sum.inr (Sum.inr ())))
theorem board_Encode_cs2_le (N : Nat) (e : (List Int)) (vv1 : Int) : OLe (board_Encode_cs2 N e vv1) (board_Encode_s2 e vv1) := by
 unfold board_Encode_cs2 board_Encode_s2
 repeat' (first | exact ole_rfl | exact board_putBoard_L_le _ _ _ | exact board_putDefects_L_le _ _ _ | exact wire_Text_le _ _ | exact wire_Ints_le _ _ | refine ole_bif ?_ ?_ | refine ole_bind ?_ (fun _ => ?_) | refine ole_let (fun _ => ?_) | refine ole_map ?_ | refine ole_elim (fun _ => ?_) (fun _ => ?_) | refine ole_loop (fun _ => ?_))
noncomputable def board_Encode_cs1 (N : Nat) (pv : (List Int)) (pv1 : (List Int)) (vv : Int) : Option (Int ⊕ ((ByteArray × Int) ⊕ Unit)) :=
 (bif (decide (vv < 2)) then (Option.bind ((Option.bind (getI [pv, pv1] vv) (fun e => (iterX N (fun q => board_Encode_cs2 N e q) 0))) : Option ((Int ⊕ ((ByteArray × Int) ⊕ Unit)) ⊕ Unit)) (Sum.elim (fun q => some q) (fun _ => some (Sum.inl (W64 (vv + 1)))))) else some (Sum.inr (Sum.inr ())))
theorem board_Encode_cs1_le (N : Nat) (pv : (List Int)) (pv1 : (List Int)) (vv : Int) : OLe (board_Encode_cs1 N pv pv1 vv) (board_Encode_s1 pv pv1 vv) := by
 unfold board_Encode_cs1 board_Encode_s1
 repeat' (first | exact ole_rfl | exact board_putBoard_L_le _ _ _ | exact board_putDefects_L_le _ _ _ | exact wire_Text_le _ _ | exact wire_Ints_le _ _ | exact board_Encode_cs2_le _ _ _ | refine ole_bif ?_ ?_ | refine ole_bind ?_ (fun _ => ?_) | refine ole_let (fun _ => ?_) | refine ole_map ?_ | refine ole_elim (fun _ => ?_) (fun _ => ?_) | refine ole_loop (fun _ => ?_))
noncomputable def board_Encode_c (N : Nat) (b : TBoard) : Option (ByteArray × Int) :=
 (bif (decide (16 < ((b.Id.size : Nat) : Int))) then some ((⟨#[]⟩ : ByteArray), 6) else (bif (decide (16 < ((b.Log.size : Nat) : Int))) then some ((⟨#[]⟩ : ByteArray), 6) else (bif (decide (16 < ((b.Species.size : Nat) : Int))) then some ((⟨#[]⟩ : ByteArray), 6) else (bif (decide (64 < ((b.Defects.length : Nat) : Int))) then some ((⟨#[]⟩ : ByteArray), 4) else (Option.bind ((board_putBoard_L_c N) [] b) (fun pv => (Option.bind ((board_putDefects_L_c N) [] b.Defects) (fun pv1 => (Option.bind ((iterX N (fun q => board_Encode_cs1 N pv pv1 q) 0) : Option ((ByteArray × Int) ⊕ Unit)) (Sum.elim (fun q => some q) (fun _ => (Option.bind ((wire_Text_c N) b.Id) (fun tv => (Option.bind ((wire_Text_c N) b.Log) (fun tv1 => (Option.bind (catO tv tv1) (fun t10 => (Option.bind ((wire_Text_c N) b.Species) (fun tv2 => (Option.bind (catO t10 tv2) (fun t11 => (Option.bind ((wire_Ints_c N) pv) (fun iv => (Option.bind (catO t11 iv) (fun t12 => (Option.bind ((wire_Ints_c N) pv1) (fun iv1 => (Option.bind (catO t12 iv1) (fun t13 => some (t13, 0))))))))))))))))))))))))))))))
theorem board_Encode_le (N : Nat) (b : TBoard) : OLe (board_Encode_c N b) (board_Encode_g b) := by
 unfold board_Encode_c board_Encode_g
 repeat' (first | exact ole_rfl | exact board_putBoard_L_le _ _ _ | exact board_putDefects_L_le _ _ _ | exact wire_Text_le _ _ | exact wire_Ints_le _ _ | exact board_Encode_cs2_le _ _ _ | exact board_Encode_cs1_le _ _ _ _ | refine ole_bif ?_ ?_ | refine ole_bind ?_ (fun _ => ?_) | refine ole_let (fun _ => ?_) | refine ole_map ?_ | refine ole_elim (fun _ => ?_) (fun _ => ?_) | refine ole_loop (fun _ => ?_))
noncomputable def wire_NewReader_g (s : ByteArray) : Twire_Reader :=
 (⟨s, 0, 0⟩ : Twire_Reader)
theorem wire_NewReader_w (s : ByteArray) (r : Twire_Reader) (h : wire_NewReader_g s = r) : Holds Tryz.prog 60 [(S s)] [] (.ref 999 0 0) [(999, some ⟨150, 3, [(encTwire_Reader r)]⟩)] := by
 unfold wire_NewReader_g at h
 refine holds_fn Tryz.func60 rfl Tryz.ntmps60 rfl rfl rfl (fun lim => ?_)
 refine awp_seq (awp_go hmix (go_run' ttok 1 rfl (go_nil nd (then_norm (awp_seq (awp_go hmix (go_run' ttok 4 rfl (go_nil nd (then_norm (awp_ret ?_))))))))))
 have e1 := h
 subst e1
 refine ret_ret ?_
 exact finB [(999, some 5)] ttok rfl rfl rfl rfl ⟨rfl, rfl, rfl⟩ ⟨⟨_, rfl, rfl, rfl, .inl ⟨rfl, nr_one rfl⟩⟩, trivial⟩
noncomputable def wire_Reader__stopped_g (vr : Twire_Reader) : Bool :=
 (vr.e != 0)
theorem wire_Reader__stopped_w (vr : Twire_Reader) (r : Bool) (h : wire_Reader__stopped_g vr = r) : Holds Tryz.prog 109 [(.ref 1000 0 0)] [(1000, some ⟨150, 3, [(encTwire_Reader vr)]⟩)] (B r) [(1000, some ⟨150, 3, [(encTwire_Reader vr)]⟩)] := by
 unfold wire_Reader__stopped_g at h
 refine holds_fn Tryz.func109 rfl Tryz.ntmps109 rfl rfl rfl (fun lim => ?_)
 refine awp_seq (awp_go hmix (go_run' ttok 1 rfl (go_nil nd (then_norm (awp_seq (awp_go hmix (go_run' ttok 1 rfl ?_)))))))
 refine go_step rfl (as_refNil (.inl ⟨rfl, rfl⟩) rfl Tryz.underlying96 rfl rfl) rfl rfl rfl ?_
 refine go_run' ttok 2 rfl ?_
 refine go_step rfl (as_nilCheck rfl rfl) rfl rfl rfl ?_
 refine go_run' ttok 5 rfl (go_nil nd (then_norm (awp_ret ?_)))
 have e1 := h
 subst e1
 refine ret_ret ?_
 exact finB [(1000, some 1000)] ttok rfl rfl rfl rfl (wkP_refl _ rfl) ⟨⟨_, rfl, rfl, rfl, .inl ⟨rfl, nr_one rfl⟩⟩, trivial⟩
noncomputable def wire_Reader__number_s1 (vr : Twire_Reader) (vat : Int) (n : Int) (i : Int) : Option ((Int × Int) ⊕ (Int × Int × Int)) :=
 (bif (decide (((vr.s.size : Nat) : Int) ≤ (W64 (vat + i)))) then some (Sum.inr (0, 0, 3)) else (Option.bind (bytO vr.s (W64 (vat + i))) (fun c => (Option.bind ((bif (i == 9) then (bif (decide (1 < c)) then some (Sum.inl (Sum.inr (0, 0, 5))) else some (Sum.inr ())) else some (Sum.inr ())) : Option (((Int × Int) ⊕ (Int × Int × Int)) ⊕ Unit)) (Sum.elim (fun q => some q) (fun _ => (bif decide (0 ≤ (W64 (7 * i))) then (bif (decide (128 ≤ c)) then some (Sum.inl ((bOr .u64 n (bShl .u64 (WU64 (bAnd .u8 c 127)) (W64 (7 * i)))), (W64 (i + 1)))) else (bif (c == 0) then (bif (decide (0 < i)) then some (Sum.inr (0, 0, 5)) else some (Sum.inr ((bOr .u64 n (bShl .u64 (WU64 (bAnd .u8 c 127)) (W64 (7 * i)))), (W64 ((W64 (vat + i)) + 1)), 0))) else some (Sum.inr ((bOr .u64 n (bShl .u64 (WU64 (bAnd .u8 c 127)) (W64 (7 * i)))), (W64 ((W64 (vat + i)) + 1)), 0)))) else none)))))))
noncomputable def wire_Reader__number_g (vr : Twire_Reader) (vat : Int) : Option (Int × Int × Int) :=
 (loopO (fun q => wire_Reader__number_s1 vr vat q.1 q.2) (0, 0))
theorem wire_Reader__number_w (vr : Twire_Reader) (vat : Int) (r : (Int × Int × Int)) (h : wire_Reader__number_g vr vat = some r) : Holds Tryz.prog 156 [(.ref 1000 0 0), (I vat)] [(1000, some ⟨150, 3, [(encTwire_Reader vr)]⟩)] (.tup [(U64 r.1), (I r.2.1), (I r.2.2)]) [(1000, some ⟨150, 3, [(encTwire_Reader vr)]⟩)] := by
 unfold wire_Reader__number_g at h
 refine holds_fn Tryz.func156 rfl Tryz.ntmps156 rfl rfl rfl (fun lim => ?_)
 refine awp_seq (awp_go hmix (go_run' ttok 3 rfl (go_nil nd (then_norm (awp_seq (awp_go hmix (go_run' ttok 1 rfl (go_nil nd (then_norm (awp_seq (awp_go hmix (go_run' ttok 1 rfl (go_nil nd (then_norm (awp_block ?_)))))))))))))))
 refine awp_loopD (X := (Int × Int)) (Y := (Int × Int × Int)) [0, 1] [1000] (fun q => [(7, (U64 q.1)), (8, (I q.2))]) (fun q => []) (fun q => wire_Reader__number_s1 vr vat q.1 q.2) (0, 0) [(1000, some 1000)] h ⟨rfl, rfl, rfl, rfl, rfl, ⟨wkP_id _ rfl, wkP_id _ rfl, trivial⟩, trivial⟩ (fun x vR vz hz1 hk2 => ?_)
 obtain ⟨n, i⟩ := x
 change wire_Reader__number_s1 vr vat n i = _ at hz1
 unfold wire_Reader__number_s1 at hz1
 refine awp_seq (awp_block (awp_seq (awp_seq (awp_go hmix (go_run' ttok 4 rfl ?_)))))
 refine go_step rfl (as_nilCheck rfl rfl) rfl rfl rfl ?_
 refine go_run' ttok 4 rfl (go_nil nd (then_norm ?_))
 refine awp_cond (b := (decide (((vr.s.size : Nat) : Int) ≤ (W64 (vat + i))))) rfl (fun c3 => ?_) (fun c3 => ?_)
 ·replace hz1 := of_bif_t hz1 c3
  refine awp_seq (awp_go hmix (go_run' ttok 3 rfl (go_nil nd (then_norm (awp_ret (then_ret (block_ret (then_ret ?_))))))))
  obtain ⟨t, hn4, hq⟩ := of_mapr' hz1
  subst hq
  have hq : t = _ := hk2
  subst hq
  refine then_ret (block_ret ?_)
  have e5 := of_some hn4
  subst e5
  refine ret_ret ?_
  exact finB [(1000, some 1000)] ttok rfl rfl rfl rfl (wkP_refl _ rfl) ⟨⟨_, rfl, rfl, rfl, .inl ⟨rfl, nr_one rfl⟩⟩, trivial⟩
 ·replace hz1 := of_bif_f hz1 c3
  refine awp_skip (then_norm (awp_seq (awp_go hmix (go_run' ttok 1 rfl ?_))))
  refine go_step rfl (as_nilCheck rfl rfl) rfl rfl rfl ?_
  refine go_run' ttok 5 rfl ?_
  obtain ⟨c, hv6, hz1⟩ := of_obind hz1
  refine go_indexB vr.s (W64 (vat + i)) c hv6 ttok rfl rfl rfl rfl rfl rfl rfl ?_
  refine go_run' ttok 1 rfl (go_nil nd (then_norm ?_))
  obtain ⟨y, hx7, hz1⟩ := of_obind hz1
  refine awp_seqJ (X := Unit) [0, 1, 7, 8, 9] [1000] (fun _ => []) (fun _ => []) (fun w => Sum.inr w = y) rfl rfl ?_ ?_
  ·skip
   refine awp_seq (awp_go hmix (go_run' ttok 3 rfl ?_))
   refine go_gcase rfl rfl rfl (fun g9 => ?_) (fun g9 => ?_)
   ·rw [g9]
    replace hx7 := of_bif_t hx7 g9
    refine go_run' ttok 3 rfl (go_nil nd (then_norm ?_))
    refine awp_cond (b := (decide (1 < c))) rfl (fun c10 => ?_) (fun c10 => ?_)
    ·replace hx7 := of_bif_t hx7 c10
     refine awp_seq (awp_go hmix (go_run' ttok 3 rfl (go_nil nd (then_norm (awp_ret ?_)))))
     obtain ⟨t1, hn11, hq⟩ := of_mapl' hx7
     subst hq
     have hq := of_inl hz1
     replace hq := of_some hq
     subst hq
     refine then_ret (block_ret (then_ret ?_))
     obtain ⟨t2, hn12, hq⟩ := of_mapr' hn11
     subst hq
     have hq : t2 = _ := hk2
     subst hq
     refine then_ret (block_ret ?_)
     have e13 := of_some hn12
     subst e13
     refine ret_ret ?_
     exact finB [(1000, some 1000)] ttok rfl rfl rfl rfl (wkP_refl _ rfl) ⟨⟨_, rfl, rfl, rfl, .inl ⟨rfl, nr_one rfl⟩⟩, trivial⟩
    ·replace hx7 := of_bif_f hx7 c10
     refine awp_skip ?_
     have e14 := of_some hx7
     refine then_norm ⟨rfl, (), [(1000, some 1000)], ⟨rfl, rfl, rfl, rfl, rfl, trivial, trivial⟩, e14⟩
   ·rw [g9]
    replace hx7 := of_bif_f hx7 g9
    refine go_run' ttok 3 rfl (go_nil nd (then_norm ?_))
    refine awp_cond rfl (fun h => by cases h) (fun tt0 => ?_)
    clear tt0
    refine awp_skip ?_
    have e15 := of_some hx7
    refine then_norm ⟨rfl, (), [(1000, some 1000)], ⟨rfl, rfl, rfl, rfl, rfl, trivial, trivial⟩, e15⟩
  ·intro w hw8
   subst hw8
   replace hz1 := of_inr hz1
   refine awp_seq (awp_go hmix (go_run' ttok 6 rfl ?_))
   obtain ⟨hd16, hz1⟩ := of_grd hz1
   refine go_shlT (WU64 (bAnd .u8 c 127)) (W64 (7 * i)) hd16 rfl rfl rfl rfl rfl ?_
   refine go_run' ttok 2 rfl (go_nil nd (then_norm (awp_seq (awp_seq (awp_go hmix (go_run' ttok 2 rfl (go_nil nd (then_norm ?_))))))))
   refine awp_cond (b := (decide (128 ≤ c))) rfl (fun c17 => ?_) (fun c17 => ?_)
   ·replace hz1 := of_bif_t hz1 c17
    refine awp_exit (then_exit (block_here (then_norm (awp_go hmix (go_run' ttok 3 rfl (go_nil nd ?_))))))
    have e18 := of_some hz1
    subst e18
    refine then_norm ⟨rfl, ((bOr .u64 n (bShl .u64 (WU64 (bAnd .u8 c 127)) (W64 (7 * i)))), (W64 (i + 1))), [(1000, some 1000)], ⟨rfl, rfl, rfl, rfl, rfl, ⟨wkP_id _ rfl, wkP_id _ rfl, trivial⟩, trivial⟩, hk2⟩
   ·replace hz1 := of_bif_f hz1 c17
    refine awp_skip (then_norm (awp_seq (awp_seq (awp_go hmix (go_run' ttok 3 rfl ?_)))))
    refine go_gcase rfl rfl rfl (fun g19 => ?_) (fun g19 => ?_)
    ·rw [g19]
     replace hz1 := of_bif_t hz1 g19
     refine go_run' ttok 3 rfl (go_nil nd (then_norm ?_))
     refine awp_cond (b := (decide (0 < i))) rfl (fun c20 => ?_) (fun c20 => ?_)
     ·replace hz1 := of_bif_t hz1 c20
      refine awp_seq (awp_go hmix (go_run' ttok 3 rfl (go_nil nd (then_norm (awp_ret (then_ret (block_ret (then_ret ?_))))))))
      obtain ⟨t3, hn21, hq⟩ := of_mapr' hz1
      subst hq
      have hq : t3 = _ := hk2
      subst hq
      refine then_ret (block_ret ?_)
      have e22 := of_some hn21
      subst e22
      refine ret_ret ?_
      exact finB [(1000, some 1000)] ttok rfl rfl rfl rfl (wkP_refl _ rfl) ⟨⟨_, rfl, rfl, rfl, .inl ⟨rfl, nr_one rfl⟩⟩, trivial⟩
     ·replace hz1 := of_bif_f hz1 c20
      refine awp_skip (then_norm (awp_seq (awp_go hmix (go_run' ttok 8 rfl (go_nil nd (then_norm (awp_ret (block_ret (then_ret ?_)))))))))
      obtain ⟨t4, hn23, hq⟩ := of_mapr' hz1
      subst hq
      have hq : t4 = _ := hk2
      subst hq
      refine then_ret (block_ret ?_)
      have e24 := of_some hn23
      subst e24
      refine ret_ret ?_
      exact finB [(1000, some 1000)] ttok rfl rfl rfl rfl (wkP_refl _ rfl) ⟨⟨_, rfl, rfl, rfl, .inl ⟨rfl, nr_one rfl⟩⟩, trivial⟩
    ·rw [g19]
     replace hz1 := of_bif_f hz1 g19
     refine go_run' ttok 3 rfl (go_nil nd (then_norm ?_))
     refine awp_cond rfl (fun h => by cases h) (fun tt0 => ?_)
     clear tt0
     refine awp_skip (then_norm (awp_seq (awp_go hmix (go_run' ttok 8 rfl (go_nil nd (then_norm (awp_ret (block_ret (then_ret ?_)))))))))
     obtain ⟨t5, hn25, hq⟩ := of_mapr' hz1
     subst hq
     have hq : t5 = _ := hk2
     subst hq
     refine then_ret (block_ret ?_)
     have e26 := of_some hn25
     subst e26
     refine ret_ret ?_
     exact finB [(1000, some 1000)] ttok rfl rfl rfl rfl (wkP_refl _ rfl) ⟨⟨_, rfl, rfl, rfl, .inl ⟨rfl, nr_one rfl⟩⟩, trivial⟩
noncomputable def wire_Reader__number_cs1 (N : Nat) (vr : Twire_Reader) (vat : Int) (n : Int) (i : Int) : Option ((Int × Int) ⊕ (Int × Int × Int)) :=
 (bif (decide (((vr.s.size : Nat) : Int) ≤ (W64 (vat + i)))) then some (Sum.inr (0, 0, 3)) else (Option.bind (bytO vr.s (W64 (vat + i))) (fun c => (Option.bind ((bif (i == 9) then (bif (decide (1 < c)) then some (Sum.inl (Sum.inr (0, 0, 5))) else some (Sum.inr ())) else some (Sum.inr ())) : Option (((Int × Int) ⊕ (Int × Int × Int)) ⊕ Unit)) (Sum.elim (fun q => some q) (fun _ => (bif decide (0 ≤ (W64 (7 * i))) then (bif (decide (128 ≤ c)) then some (Sum.inl ((bOr .u64 n (bShl .u64 (WU64 (bAnd .u8 c 127)) (W64 (7 * i)))), (W64 (i + 1)))) else (bif (c == 0) then (bif (decide (0 < i)) then some (Sum.inr (0, 0, 5)) else some (Sum.inr ((bOr .u64 n (bShl .u64 (WU64 (bAnd .u8 c 127)) (W64 (7 * i)))), (W64 ((W64 (vat + i)) + 1)), 0))) else some (Sum.inr ((bOr .u64 n (bShl .u64 (WU64 (bAnd .u8 c 127)) (W64 (7 * i)))), (W64 ((W64 (vat + i)) + 1)), 0)))) else none)))))))
theorem wire_Reader__number_cs1_le (N : Nat) (vr : Twire_Reader) (vat : Int) (n : Int) (i : Int) : OLe (wire_Reader__number_cs1 N vr vat n i) (wire_Reader__number_s1 vr vat n i) := by
 unfold wire_Reader__number_cs1 wire_Reader__number_s1
 repeat' (first | exact ole_rfl | refine ole_bif ?_ ?_ | refine ole_bind ?_ (fun _ => ?_) | refine ole_let (fun _ => ?_) | refine ole_map ?_ | refine ole_elim (fun _ => ?_) (fun _ => ?_) | refine ole_loop (fun _ => ?_))
noncomputable def wire_Reader__number_c (N : Nat) (vr : Twire_Reader) (vat : Int) : Option (Int × Int × Int) :=
 (iterX N (fun q => wire_Reader__number_cs1 N vr vat q.1 q.2) (0, 0))
theorem wire_Reader__number_le (N : Nat) (vr : Twire_Reader) (vat : Int) : OLe (wire_Reader__number_c N vr vat) (wire_Reader__number_g vr vat) := by
 unfold wire_Reader__number_c wire_Reader__number_g
 repeat' (first | exact ole_rfl | exact wire_Reader__number_cs1_le _ _ _ _ _ | refine ole_bif ?_ ?_ | refine ole_bind ?_ (fun _ => ?_) | refine ole_let (fun _ => ?_) | refine ole_map ?_ | refine ole_elim (fun _ => ?_) (fun _ => ?_) | refine ole_loop (fun _ => ?_))
noncomputable def wire_Reader__counted_g (vr : Twire_Reader) (vat : Int) (most : Int) : Option (Int × Int × Int) :=
 (Option.bind (wire_Reader__number_g vr vat) (fun nv => (bif (nv.2.2 != 0) then some (0, 0, nv.2.2) else (bif (decide (most < 0)) then some (0, 0, 4) else (bif (decide ((WU64 most) < nv.1)) then some (0, 0, 4) else some (nv.1, nv.2.1, 0))))))
theorem wire_Reader__counted_w (vr : Twire_Reader) (vat : Int) (most : Int) (r : (Int × Int × Int)) (h : wire_Reader__counted_g vr vat most = some r) : Holds Tryz.prog 110 [(.ref 1000 0 0), (I vat), (I most)] [(1000, some ⟨150, 3, [(encTwire_Reader vr)]⟩)] (.tup [(U64 r.1), (I r.2.1), (I r.2.2)]) [(1000, some ⟨150, 3, [(encTwire_Reader vr)]⟩)] := by
 unfold wire_Reader__counted_g at h
 refine holds_fn Tryz.func110 rfl Tryz.ntmps110 rfl rfl rfl (fun lim => ?_)
 refine awp_seq (awp_go hmix (go_run' ttok 3 rfl (go_nil nd (then_norm (awp_seq (awp_go hmix (go_run' ttok 2 rfl ?_)))))))
 obtain ⟨nv, hv1, h⟩ := of_obind h
 refine go_callR (.tup [(U64 nv.1), (I nv.2.1), (I nv.2.2)]) [] [(1000, some ⟨150, 3, [(.agg [(S vr.s), (I vr.at_), (I vr.e)])]⟩)] [(1000, some 1000)] [(1000, some 1000)] fn156 (wire_Reader__number_w vr vat nv hv1) rfl rfl rfl rfl rfl trivial ⟨⟨rfl, rfl, rfl⟩, (wkP_refl _ rfl), trivial⟩ rfl rfl ⟨⟨_, rfl, rfl, rfl, .inl ⟨rfl, nr_one rfl⟩⟩, trivial⟩ rfl rfl ⟨⟨_, rfl, rfl, rfl, .inl ⟨rfl, nr_one rfl⟩⟩, trivial⟩ (wkP_refl _ rfl) rfl (fun h => absurd rfl h) ⟨rfl, trivial⟩ rfl rfl rfl ?_
 refine go_run' ttok 7 rfl (go_nil nd (then_norm (awp_seq (awp_seq (awp_go hmix (go_run' ttok 2 rfl (go_nil nd (then_norm ?_))))))))
 refine awp_cond (b := (nv.2.2 != 0)) rfl (fun c2 => ?_) (fun c2 => ?_)
 ·replace h := of_bif_t h c2
  refine awp_seq (awp_go hmix (go_run' ttok 4 rfl (go_nil nd (then_norm (awp_ret (then_ret ?_))))))
  have e3 := of_some h
  subst e3
  refine ret_ret ?_
  exact finB [(1000, some 1000)] ttok rfl rfl rfl rfl (wkP_refl _ rfl) ⟨⟨_, rfl, rfl, rfl, .inl ⟨rfl, nr_one rfl⟩⟩, trivial⟩
 ·replace h := of_bif_f h c2
  refine awp_skip (then_norm (awp_seq (awp_seq (awp_go hmix (go_run' ttok 3 rfl ?_)))))
  refine go_gcase rfl rfl rfl (fun g4 => ?_) (fun g4 => ?_)
  ·rw [g4]
   replace h := of_bif_t h g4
   refine go_run' ttok 5 rfl (go_nil nd (then_norm ?_))
   refine awp_cond rfl (fun tt0 => ?_) (fun h => by cases h)
   clear tt0
   refine awp_seq (awp_go hmix (go_run' ttok 3 rfl (go_nil nd (then_norm (awp_ret (then_ret ?_))))))
   have e5 := of_some h
   subst e5
   refine ret_ret ?_
   exact finB [(1000, some 1000)] ttok rfl rfl rfl rfl (wkP_refl _ rfl) ⟨⟨_, rfl, rfl, rfl, .inl ⟨rfl, nr_one rfl⟩⟩, trivial⟩
  ·rw [g4]
   replace h := of_bif_f h g4
   refine go_run' ttok 5 rfl (go_nil nd (then_norm ?_))
   refine awp_cond (b := (decide ((WU64 most) < nv.1))) rfl (fun c6 => ?_) (fun c6 => ?_)
   ·replace h := of_bif_t h c6
    refine awp_seq (awp_go hmix (go_run' ttok 3 rfl (go_nil nd (then_norm (awp_ret (then_ret ?_))))))
    have e7 := of_some h
    subst e7
    refine ret_ret ?_
    exact finB [(1000, some 1000)] ttok rfl rfl rfl rfl (wkP_refl _ rfl) ⟨⟨_, rfl, rfl, rfl, .inl ⟨rfl, nr_one rfl⟩⟩, trivial⟩
   ·replace h := of_bif_f h c6
    refine awp_skip (then_norm (awp_seq (awp_go hmix (go_run' ttok 5 rfl (go_nil nd (then_norm (awp_ret ?_)))))))
    have e8 := of_some h
    subst e8
    refine ret_ret ?_
    exact finB [(1000, some 1000)] ttok rfl rfl rfl rfl (wkP_refl _ rfl) ⟨⟨_, rfl, rfl, rfl, .inl ⟨rfl, nr_one rfl⟩⟩, trivial⟩
noncomputable def wire_Reader__counted_c (N : Nat) (vr : Twire_Reader) (vat : Int) (most : Int) : Option (Int × Int × Int) :=
 (Option.bind ((wire_Reader__number_c N) vr vat) (fun nv => (bif (nv.2.2 != 0) then some (0, 0, nv.2.2) else (bif (decide (most < 0)) then some (0, 0, 4) else (bif (decide ((WU64 most) < nv.1)) then some (0, 0, 4) else some (nv.1, nv.2.1, 0))))))
theorem wire_Reader__counted_le (N : Nat) (vr : Twire_Reader) (vat : Int) (most : Int) : OLe (wire_Reader__counted_c N vr vat most) (wire_Reader__counted_g vr vat most) := by
 unfold wire_Reader__counted_c wire_Reader__counted_g
 repeat' (first | exact ole_rfl | exact wire_Reader__number_le _ _ _ | refine ole_bif ?_ ?_ | refine ole_bind ?_ (fun _ => ?_) | refine ole_let (fun _ => ?_) | refine ole_map ?_ | refine ole_elim (fun _ => ?_) (fun _ => ?_) | refine ole_loop (fun _ => ?_))
noncomputable def wire_Reader__done_g (vr : Twire_Reader) (vend : Int) (e : Int) : Twire_Reader :=
 (bif (e != 0) then (⟨vr.s, vr.at_, e⟩ : Twire_Reader) else (⟨vr.s, vend, vr.e⟩ : Twire_Reader))
theorem wire_Reader__done_w (vr : Twire_Reader) (vend : Int) (e : Int) (r : Twire_Reader) (h : wire_Reader__done_g vr vend e = r) : Holds Tryz.prog 111 [(.ref 1000 0 0), (I vend), (I e)] [(1000, some ⟨150, 3, [(encTwire_Reader vr)]⟩)] (.tup []) [(1000, some ⟨150, 3, [(encTwire_Reader r)]⟩)] := by
 unfold wire_Reader__done_g at h
 refine holds_fn Tryz.func111 rfl Tryz.ntmps111 rfl rfl rfl (fun lim => ?_)
 refine awp_seq (awp_seq (awp_go hmix (go_run' ttok 2 rfl (go_nil nd (then_norm ?_)))))
 refine awp_cond (b := (e != 0)) rfl (fun c1 => ?_) (fun c1 => ?_)
 ·replace h := of_bif_t h c1
  refine awp_seq (awp_go hmix (go_run' ttok 2 rfl ?_))
  refine go_step rfl (as_nilCheck rfl rfl) rfl rfl rfl ?_
  refine go_run' ttok 2 rfl (go_nil nd (then_norm (awp_ret (then_ret ?_))))
  have e2 := h
  subst e2
  refine ret_ret ?_
  exact finB [(1000, some 1000)] ttok rfl rfl rfl rfl (wkP_refl _ rfl) ⟨⟨_, rfl, rfl, rfl, .inl ⟨rfl, nr_one rfl⟩⟩, trivial⟩
 ·replace h := of_bif_f h c1
  refine awp_skip (then_norm (awp_go hmix (go_run' ttok 2 rfl ?_)))
  refine go_step rfl (as_nilCheck rfl rfl) rfl rfl rfl ?_
  refine go_run' ttok 2 rfl (go_nil nd ?_)
  have e3 := h
  subst e3
  refine ret_norm ?_
  exact finB [(1000, some 1000)] ttok rfl rfl rfl rfl (wkP_refl _ rfl) ⟨⟨_, rfl, rfl, rfl, .inl ⟨rfl, nr_one rfl⟩⟩, trivial⟩
noncomputable def wire_Reader__Text_g (vr : Twire_Reader) (most : Int) : Option (ByteArray × Twire_Reader) :=
 (bif (wire_Reader__stopped_g vr) then some ((⟨#[]⟩ : ByteArray), vr) else (Option.bind (wire_Reader__counted_g vr vr.at_ most) (fun cv => (letB ((bif (cv.2.2 == 0) then (bif (decide ((WU64 (W64 (((vr.s.size : Nat) : Int) - cv.2.1))) < cv.1)) then 3 else cv.2.2) else cv.2.2) : Int) (fun e => (bif (e != 0) then (letB (wire_Reader__done_g vr 0 e) (fun dv => some ((⟨#[]⟩ : ByteArray), dv))) else (letB (wire_Reader__done_g vr (W64 (cv.2.1 + (W64 cv.1))) 0) (fun dv1 => (Option.bind (ssubO dv1.s cv.2.1 (W64 (cv.2.1 + (W64 cv.1)))) (fun t => some (t, dv1)))))))))))
theorem wire_Reader__Text_w (vr : Twire_Reader) (most : Int) (r : (ByteArray × Twire_Reader)) (h : wire_Reader__Text_g vr most = some r) : Holds Tryz.prog 61 [(.ref 1000 0 0), (I most)] [(1000, some ⟨150, 3, [(encTwire_Reader vr)]⟩)] (S r.1) [(1000, some ⟨150, 3, [(encTwire_Reader r.2)]⟩)] := by
 unfold wire_Reader__Text_g at h
 refine holds_fn Tryz.func61 rfl Tryz.ntmps61 rfl rfl rfl (fun lim => ?_)
 refine awp_seq (awp_go hmix (go_run' ttok 1 rfl (go_nil nd (then_norm (awp_seq (awp_seq (awp_go hmix (go_run' ttok 1 rfl ?_))))))))
 refine go_callR (B (wire_Reader__stopped_g vr)) [] [(1000, some ⟨150, 3, [(.agg [(S vr.s), (I vr.at_), (I vr.e)])]⟩)] [(1000, some 1000)] [(1000, some 1000)] fn109 (wire_Reader__stopped_w vr _ rfl) rfl rfl rfl rfl rfl trivial ⟨⟨rfl, rfl, rfl⟩, trivial⟩ rfl rfl ⟨⟨_, rfl, rfl, rfl, .inl ⟨rfl, nr_one rfl⟩⟩, trivial⟩ rfl rfl ⟨⟨_, rfl, rfl, rfl, .inl ⟨rfl, nr_one rfl⟩⟩, trivial⟩ (wkP_refl _ rfl) rfl (fun h => absurd rfl h) ⟨rfl, trivial⟩ rfl rfl rfl ?_
 refine go_nil nd (then_norm ?_)
 refine awp_cond (b := (wire_Reader__stopped_g vr)) rfl (fun c1 => ?_) (fun c1 => ?_)
 ·replace h := of_bif_t h c1
  refine awp_seq (awp_go hmix (go_run' ttok 1 rfl (go_nil nd (then_norm (awp_ret (then_ret ?_))))))
  have e2 := of_some h
  subst e2
  refine ret_ret ?_
  exact finB [(1000, some 1000)] ttok rfl rfl rfl rfl (wkP_refl _ rfl) ⟨⟨_, rfl, rfl, rfl, .inl ⟨rfl, nr_one rfl⟩⟩, trivial⟩
 ·replace h := of_bif_f h c1
  refine awp_skip (then_norm (awp_seq (awp_go hmix (go_run' ttok 2 rfl ?_))))
  refine go_step rfl (as_nilCheck rfl rfl) rfl rfl rfl ?_
  refine go_run' ttok 3 rfl ?_
  obtain ⟨cv, hv3, h⟩ := of_obind h
  refine go_callR (.tup [(U64 cv.1), (I cv.2.1), (I cv.2.2)]) [] [(1000, some ⟨150, 3, [(.agg [(S vr.s), (I vr.at_), (I vr.e)])]⟩)] [(1000, some 1000)] [(1000, some 1000)] fn110 (wire_Reader__counted_w vr vr.at_ most cv hv3) rfl rfl rfl rfl rfl trivial ⟨⟨rfl, rfl, rfl⟩, (wkP_refl _ rfl), (wkP_refl _ rfl), trivial⟩ rfl rfl ⟨⟨_, rfl, rfl, rfl, .inl ⟨rfl, nr_one rfl⟩⟩, trivial⟩ rfl rfl ⟨⟨_, rfl, rfl, rfl, .inl ⟨rfl, nr_one rfl⟩⟩, trivial⟩ (wkP_refl _ rfl) rfl (fun h => absurd rfl h) ⟨rfl, trivial⟩ rfl rfl rfl ?_
  refine go_run' ttok 7 rfl (go_nil nd (then_norm ?_))
  obtain ⟨y, hx4, h⟩ := of_let h
  refine awp_seqJ (X := Int) [0, 5, 6] [1000] (fun w => [(7, (I w))]) (fun w => []) (fun w => w = y) rfl rfl ?_ ?_
  ·skip
   refine awp_seq (awp_go hmix (go_run' ttok 3 rfl ?_))
   refine go_gcase rfl rfl rfl (fun g6 => ?_) (fun g6 => ?_)
   ·rw [g6]
    replace hx4 := of_bif_t hx4 g6
    refine go_run' ttok 2 rfl ?_
    refine go_step rfl (as_nilCheck rfl rfl) rfl rfl rfl ?_
    refine go_run' ttok 8 rfl (go_nil nd (then_norm ?_))
    refine awp_cond (b := (decide ((WU64 (W64 (((vr.s.size : Nat) : Int) - cv.2.1))) < cv.1))) rfl (fun c7 => ?_) (fun c7 => ?_)
    ·replace hx4 := of_bif_t hx4 c7
     refine awp_go hmix (go_run' ttok 1 rfl (go_nil nd ?_))
     have e8 := hx4
     refine then_norm ⟨rfl, 3, [(1000, some 1000)], ⟨rfl, rfl, rfl, rfl, rfl, ⟨wkP_id _ rfl, trivial⟩, trivial⟩, e8⟩
    ·replace hx4 := of_bif_f hx4 c7
     refine awp_skip ?_
     have e9 := hx4
     refine then_norm ⟨rfl, cv.2.2, [(1000, some 1000)], ⟨rfl, rfl, rfl, rfl, rfl, ⟨wkP_id _ rfl, trivial⟩, trivial⟩, e9⟩
   ·rw [g6]
    replace hx4 := of_bif_f hx4 g6
    refine go_run' ttok 11 rfl (go_nil nd (then_norm ?_))
    refine awp_cond rfl (fun h => by cases h) (fun tt0 => ?_)
    clear tt0
    refine awp_skip ?_
    have e10 := hx4
    refine then_norm ⟨rfl, cv.2.2, [(1000, some 1000)], ⟨rfl, rfl, rfl, rfl, rfl, ⟨wkP_id _ rfl, trivial⟩, trivial⟩, e10⟩
  ·intro e hw5
   subst hw5
   refine awp_seq (awp_seq (awp_go hmix (go_run' ttok 2 rfl (go_nil nd (then_norm ?_)))))
   refine awp_cond (b := (e != 0)) rfl (fun c11 => ?_) (fun c11 => ?_)
   ·replace h := of_bif_t h c11
    refine awp_seq (awp_go hmix (go_run' ttok 2 rfl ?_))
    obtain ⟨dv, hv12, h⟩ := of_let h
    refine go_callM (.tup []) [] [(1000, some ⟨150, 3, [(.agg [(S dv.s), (I dv.at_), (I dv.e)])]⟩)] [(1000, some 1000)] [(1000, some 1000)] fn111 (wire_Reader__done_w vr 0 e dv hv12) rfl rfl rfl rfl rfl trivial ⟨⟨rfl, rfl, rfl⟩, (wkP_refl _ rfl), (wkP_refl _ rfl), trivial⟩ rfl rfl ⟨⟨_, rfl, rfl, rfl, .inl ⟨rfl, nr_one rfl⟩⟩, trivial⟩ rfl rfl ⟨⟨_, rfl, rfl, rfl, .inl ⟨rfl, nr_one rfl⟩⟩, trivial⟩ (wkP_refl _ rfl) rfl (fun h => absurd rfl h) rfl rfl rfl ?_
    refine go_nil nd (then_norm (awp_seq (awp_go hmix (go_run' ttok 1 rfl (go_nil nd (then_norm (awp_ret (then_ret ?_))))))))
    have e13 := of_some h
    subst e13
    refine ret_ret ?_
    exact finB [(1000, some 1000)] ttok rfl rfl rfl rfl (wkP_refl _ rfl) ⟨⟨_, rfl, rfl, rfl, .inl ⟨rfl, nr_one rfl⟩⟩, trivial⟩
   ·replace h := of_bif_f h c11
    refine awp_skip (then_norm (awp_seq (awp_go hmix (go_run' ttok 5 rfl (go_nil nd (then_norm (awp_seq (awp_go hmix (go_run' ttok 2 rfl ?_)))))))))
    obtain ⟨dv1, hv14, h⟩ := of_let h
    refine go_callM (.tup []) [] [(1000, some ⟨150, 3, [(.agg [(S dv1.s), (I dv1.at_), (I dv1.e)])]⟩)] [(1000, some 1000)] [(1000, some 1000)] fn111 (wire_Reader__done_w vr (W64 (cv.2.1 + (W64 cv.1))) 0 dv1 hv14) rfl rfl rfl rfl rfl trivial ⟨⟨rfl, rfl, rfl⟩, (wkP_refl _ rfl), (wkP_refl _ rfl), trivial⟩ rfl rfl ⟨⟨_, rfl, rfl, rfl, .inl ⟨rfl, nr_one rfl⟩⟩, trivial⟩ rfl rfl ⟨⟨_, rfl, rfl, rfl, .inl ⟨rfl, nr_one rfl⟩⟩, trivial⟩ (wkP_refl _ rfl) rfl (fun h => absurd rfl h) rfl rfl rfl ?_
    refine go_nil nd (then_norm (awp_seq (awp_go hmix (go_run' ttok 1 rfl ?_))))
    refine go_step rfl (as_nilCheck rfl rfl) rfl rfl rfl ?_
    refine go_run' ttok 4 rfl ?_
    obtain ⟨t, hv15, h⟩ := of_obind h
    refine go_sliceS dv1.s t cv.2.1 (W64 (cv.2.1 + (W64 cv.1))) hv15 ttok rfl rfl rfl rfl rfl ⟨_, rfl⟩ ⟨_, rfl⟩ rfl ?_
    refine go_run' ttok 1 rfl (go_nil nd (then_norm (awp_ret ?_)))
    have e16 := of_some h
    subst e16
    refine ret_ret ?_
    exact finB [(1000, some 1000)] ttok rfl rfl rfl rfl (wkP_refl _ rfl) ⟨⟨_, rfl, rfl, rfl, .inl ⟨rfl, nr_one rfl⟩⟩, trivial⟩
noncomputable def wire_Reader__Text_c (N : Nat) (vr : Twire_Reader) (most : Int) : Option (ByteArray × Twire_Reader) :=
 (bif (wire_Reader__stopped_g vr) then some ((⟨#[]⟩ : ByteArray), vr) else (Option.bind ((wire_Reader__counted_c N) vr vr.at_ most) (fun cv => (letB ((bif (cv.2.2 == 0) then (bif (decide ((WU64 (W64 (((vr.s.size : Nat) : Int) - cv.2.1))) < cv.1)) then 3 else cv.2.2) else cv.2.2) : Int) (fun e => (bif (e != 0) then (letB (wire_Reader__done_g vr 0 e) (fun dv => some ((⟨#[]⟩ : ByteArray), dv))) else (letB (wire_Reader__done_g vr (W64 (cv.2.1 + (W64 cv.1))) 0) (fun dv1 => (Option.bind (ssubO dv1.s cv.2.1 (W64 (cv.2.1 + (W64 cv.1)))) (fun t => some (t, dv1)))))))))))
theorem wire_Reader__Text_le (N : Nat) (vr : Twire_Reader) (most : Int) : OLe (wire_Reader__Text_c N vr most) (wire_Reader__Text_g vr most) := by
 unfold wire_Reader__Text_c wire_Reader__Text_g
 repeat' (first | exact ole_rfl | exact wire_Reader__counted_le _ _ _ _ | refine ole_bif ?_ ?_ | refine ole_bind ?_ (fun _ => ?_) | refine ole_let (fun _ => ?_) | refine ole_map ?_ | refine ole_elim (fun _ => ?_) (fun _ => ?_) | refine ole_loop (fun _ => ?_))
noncomputable def wire_Reader__signed_g (vr : Twire_Reader) (vat : Int) (low : Int) (high : Int) : Option (Int × Int × Int) :=
 (Option.bind (wire_Reader__number_g vr vat) (fun nv => (bif (nv.2.2 != 0) then some (0, 0, nv.2.2) else (letB ((bif ((bAnd .u64 nv.1 1) == 1) then (bNot .i64 (W64 (bShr .u64 nv.1 1))) else (W64 (bShr .u64 nv.1 1))) : Int) (fun n => (bif (decide (n < low)) then some (0, 0, 9) else (bif (decide (high < n)) then some (0, 0, 9) else some (n, nv.2.1, 0))))))))
theorem wire_Reader__signed_w (vr : Twire_Reader) (vat : Int) (low : Int) (high : Int) (r : (Int × Int × Int)) (h : wire_Reader__signed_g vr vat low high = some r) : Holds Tryz.prog 112 [(.ref 1000 0 0), (I vat), (I low), (I high)] [(1000, some ⟨150, 3, [(encTwire_Reader vr)]⟩)] (.tup [(I r.1), (I r.2.1), (I r.2.2)]) [(1000, some ⟨150, 3, [(encTwire_Reader vr)]⟩)] := by
 unfold wire_Reader__signed_g at h
 refine holds_fn Tryz.func112 rfl Tryz.ntmps112 rfl rfl rfl (fun lim => ?_)
 refine awp_seq (awp_go hmix (go_run' ttok 3 rfl (go_nil nd (then_norm (awp_seq (awp_go hmix (go_run' ttok 2 rfl ?_)))))))
 obtain ⟨nv, hv1, h⟩ := of_obind h
 refine go_callR (.tup [(U64 nv.1), (I nv.2.1), (I nv.2.2)]) [] [(1000, some ⟨150, 3, [(.agg [(S vr.s), (I vr.at_), (I vr.e)])]⟩)] [(1000, some 1000)] [(1000, some 1000)] fn156 (wire_Reader__number_w vr vat nv hv1) rfl rfl rfl rfl rfl trivial ⟨⟨rfl, rfl, rfl⟩, (wkP_refl _ rfl), trivial⟩ rfl rfl ⟨⟨_, rfl, rfl, rfl, .inl ⟨rfl, nr_one rfl⟩⟩, trivial⟩ rfl rfl ⟨⟨_, rfl, rfl, rfl, .inl ⟨rfl, nr_one rfl⟩⟩, trivial⟩ (wkP_refl _ rfl) rfl (fun h => absurd rfl h) ⟨rfl, trivial⟩ rfl rfl rfl ?_
 refine go_run' ttok 7 rfl (go_nil nd (then_norm (awp_seq (awp_seq (awp_go hmix (go_run' ttok 2 rfl (go_nil nd (then_norm ?_))))))))
 refine awp_cond (b := (nv.2.2 != 0)) rfl (fun c2 => ?_) (fun c2 => ?_)
 ·replace h := of_bif_t h c2
  refine awp_seq (awp_go hmix (go_run' ttok 4 rfl (go_nil nd (then_norm (awp_ret (then_ret ?_))))))
  have e3 := of_some h
  subst e3
  refine ret_ret ?_
  exact finB [(1000, some 1000)] ttok rfl rfl rfl rfl (wkP_refl _ rfl) ⟨⟨_, rfl, rfl, rfl, .inl ⟨rfl, nr_one rfl⟩⟩, trivial⟩
 ·replace h := of_bif_f h c2
  refine awp_skip (then_norm (awp_seq (awp_go hmix (go_run' ttok 4 rfl (go_nil nd (then_norm ?_))))))
  obtain ⟨y, hx4, h⟩ := of_let h
  refine awp_seqJ (X := Int) [2, 3, 12] [1000] (fun w => [(14, (I w))]) (fun w => []) (fun w => w = y) rfl rfl ?_ ?_
  ·skip
   refine awp_seq (awp_go hmix (go_run' ttok 3 rfl (go_nil nd (then_norm ?_))))
   refine awp_cond (b := ((bAnd .u64 nv.1 1) == 1)) rfl (fun c6 => ?_) (fun c6 => ?_)
   ·replace hx4 := of_bif_t hx4 c6
    refine awp_go hmix (go_run' ttok 3 rfl (go_nil nd ?_))
    have e7 := hx4
    refine then_norm ⟨rfl, (bNot .i64 (W64 (bShr .u64 nv.1 1))), [(1000, some 1000)], ⟨rfl, rfl, rfl, rfl, rfl, ⟨wkP_id _ rfl, trivial⟩, trivial⟩, e7⟩
   ·replace hx4 := of_bif_f hx4 c6
    refine awp_skip ?_
    have e8 := hx4
    refine then_norm ⟨rfl, (W64 (bShr .u64 nv.1 1)), [(1000, some 1000)], ⟨rfl, rfl, rfl, rfl, rfl, ⟨wkP_id _ rfl, trivial⟩, trivial⟩, e8⟩
  ·intro n hw5
   subst hw5
   refine awp_seq (awp_seq (awp_go hmix (go_run' ttok 4 rfl ?_)))
   refine go_gcase rfl rfl rfl (fun g9 => ?_) (fun g9 => ?_)
   ·rw [g9]
    replace h := of_bif_t h g9
    refine go_run' ttok 4 rfl (go_nil nd (then_norm ?_))
    refine awp_cond rfl (fun tt0 => ?_) (fun h => by cases h)
    clear tt0
    refine awp_seq (awp_go hmix (go_run' ttok 3 rfl (go_nil nd (then_norm (awp_ret (then_ret ?_))))))
    have e10 := of_some h
    subst e10
    refine ret_ret ?_
    exact finB [(1000, some 1000)] ttok rfl rfl rfl rfl (wkP_refl _ rfl) ⟨⟨_, rfl, rfl, rfl, .inl ⟨rfl, nr_one rfl⟩⟩, trivial⟩
   ·rw [g9]
    replace h := of_bif_f h g9
    refine go_run' ttok 4 rfl (go_nil nd (then_norm ?_))
    refine awp_cond (b := (decide (high < n))) rfl (fun c11 => ?_) (fun c11 => ?_)
    ·replace h := of_bif_t h c11
     refine awp_seq (awp_go hmix (go_run' ttok 3 rfl (go_nil nd (then_norm (awp_ret (then_ret ?_))))))
     have e12 := of_some h
     subst e12
     refine ret_ret ?_
     exact finB [(1000, some 1000)] ttok rfl rfl rfl rfl (wkP_refl _ rfl) ⟨⟨_, rfl, rfl, rfl, .inl ⟨rfl, nr_one rfl⟩⟩, trivial⟩
    ·replace h := of_bif_f h c11
     refine awp_skip (then_norm (awp_seq (awp_go hmix (go_run' ttok 5 rfl (go_nil nd (then_norm (awp_ret ?_)))))))
     have e13 := of_some h
     subst e13
     refine ret_ret ?_
     exact finB [(1000, some 1000)] ttok rfl rfl rfl rfl (wkP_refl _ rfl) ⟨⟨_, rfl, rfl, rfl, .inl ⟨rfl, nr_one rfl⟩⟩, trivial⟩
noncomputable def wire_Reader__signed_c (N : Nat) (vr : Twire_Reader) (vat : Int) (low : Int) (high : Int) : Option (Int × Int × Int) :=
 (Option.bind ((wire_Reader__number_c N) vr vat) (fun nv => (bif (nv.2.2 != 0) then some (0, 0, nv.2.2) else (letB ((bif ((bAnd .u64 nv.1 1) == 1) then (bNot .i64 (W64 (bShr .u64 nv.1 1))) else (W64 (bShr .u64 nv.1 1))) : Int) (fun n => (bif (decide (n < low)) then some (0, 0, 9) else (bif (decide (high < n)) then some (0, 0, 9) else some (n, nv.2.1, 0))))))))
theorem wire_Reader__signed_le (N : Nat) (vr : Twire_Reader) (vat : Int) (low : Int) (high : Int) : OLe (wire_Reader__signed_c N vr vat low high) (wire_Reader__signed_g vr vat low high) := by
 unfold wire_Reader__signed_c wire_Reader__signed_g
 repeat' (first | exact ole_rfl | exact wire_Reader__number_le _ _ _ | refine ole_bif ?_ ?_ | refine ole_bind ?_ (fun _ => ?_) | refine ole_let (fun _ => ?_) | refine ole_map ?_ | refine ole_elim (fun _ => ?_) (fun _ => ?_) | refine ole_loop (fun _ => ?_))
noncomputable def wire_Reader__Ints_s1 (vr : Twire_Reader) (low : Int) (high : Int) (cv : (Int × Int × Int)) (vat1 : Int) (e1 : Int) (l1 : (List Int)) (i : Int) : Option ((Int × Int × (List Int) × Int) ⊕ (Int × Int × (List Int))) :=
 (bif (decide (i < cv.1)) then (bif (e1 == 0) then (Option.bind (wire_Reader__signed_g vr vat1 low high) (fun sv => (Option.bind (appO 8 l1 ([sv.1])) (fun l2 => some (Sum.inl (sv.2.1, sv.2.2, l2, (WU64 (i + 1)))))))) else some (Sum.inr (vat1, e1, l1))) else some (Sum.inr (vat1, e1, l1)))
noncomputable def wire_Reader__Ints_g (vr : Twire_Reader) (most : Int) (low : Int) (high : Int) : Option ((List Int) × Twire_Reader) :=
 (bif (wire_Reader__stopped_g vr) then some ([], vr) else (Option.bind (wire_Reader__counted_g vr vr.at_ most) (fun cv => (Option.bind ((loopO (fun q => wire_Reader__Ints_s1 vr low high cv q.1 q.2.1 q.2.2.1 q.2.2.2) (cv.2.1, cv.2.2, [], 0)) : Option (Int × Int × (List Int))) (fun w1 => (letB (wire_Reader__done_g vr w1.1 w1.2.1) (fun dv => (bif (w1.2.1 != 0) then some ([], dv) else some (w1.2.2, dv)))))))))
theorem wire_Reader__Ints_w (vr : Twire_Reader) (most : Int) (low : Int) (high : Int) (r : ((List Int) × Twire_Reader)) (h : wire_Reader__Ints_g vr most low high = some r) : Holds Tryz.prog 62 [(.ref 1000 0 0), (I most), (I low), (I high)] [(1000, some ⟨150, 3, [(encTwire_Reader vr)]⟩)] ((encL I) r.1) [(1000, some ⟨150, 3, [(encTwire_Reader r.2)]⟩)] := by
 unfold wire_Reader__Ints_g at h
 refine holds_fn Tryz.func62 rfl Tryz.ntmps62 rfl rfl rfl (fun lim => ?_)
 refine awp_seq (awp_go hmix (go_run' ttok 1 rfl (go_nil nd (then_norm (awp_seq (awp_seq (awp_go hmix (go_run' ttok 1 rfl ?_))))))))
 refine go_callR (B (wire_Reader__stopped_g vr)) [] [(1000, some ⟨150, 3, [(.agg [(S vr.s), (I vr.at_), (I vr.e)])]⟩)] [(1000, some 1000)] [(1000, some 1000)] fn109 (wire_Reader__stopped_w vr _ rfl) rfl rfl rfl rfl rfl trivial ⟨⟨rfl, rfl, rfl⟩, trivial⟩ rfl rfl ⟨⟨_, rfl, rfl, rfl, .inl ⟨rfl, nr_one rfl⟩⟩, trivial⟩ rfl rfl ⟨⟨_, rfl, rfl, rfl, .inl ⟨rfl, nr_one rfl⟩⟩, trivial⟩ (wkP_refl _ rfl) rfl (fun h => absurd rfl h) ⟨rfl, trivial⟩ rfl rfl rfl ?_
 refine go_nil nd (then_norm ?_)
 refine awp_cond (b := (wire_Reader__stopped_g vr)) rfl (fun c1 => ?_) (fun c1 => ?_)
 ·replace h := of_bif_t h c1
  refine awp_seq (awp_go hmix (go_run' ttok 1 rfl (go_nil nd (then_norm (awp_ret (then_ret ?_))))))
  have e2 := of_some h
  subst e2
  refine ret_ret ?_
  exact finB [(1000, some 1000)] ttok rfl rfl rfl rfl (wkP_nilm) ⟨⟨_, rfl, rfl, rfl, .inl ⟨rfl, nr_one rfl⟩⟩, trivial⟩
 ·replace h := of_bif_f h c1
  refine awp_skip (then_norm (awp_seq (awp_go hmix (go_run' ttok 2 rfl ?_))))
  refine go_step rfl (as_nilCheck rfl rfl) rfl rfl rfl ?_
  refine go_run' ttok 3 rfl ?_
  obtain ⟨cv, hv3, h⟩ := of_obind h
  refine go_callR (.tup [(U64 cv.1), (I cv.2.1), (I cv.2.2)]) [] [(1000, some ⟨150, 3, [(.agg [(S vr.s), (I vr.at_), (I vr.e)])]⟩)] [(1000, some 1000)] [(1000, some 1000)] fn110 (wire_Reader__counted_w vr vr.at_ most cv hv3) rfl rfl rfl rfl rfl trivial ⟨⟨rfl, rfl, rfl⟩, (wkP_refl _ rfl), (wkP_refl _ rfl), trivial⟩ rfl rfl ⟨⟨_, rfl, rfl, rfl, .inl ⟨rfl, nr_one rfl⟩⟩, trivial⟩ rfl rfl ⟨⟨_, rfl, rfl, rfl, .inl ⟨rfl, nr_one rfl⟩⟩, trivial⟩ (wkP_refl _ rfl) rfl (fun h => absurd rfl h) ⟨rfl, trivial⟩ rfl rfl rfl ?_
  refine go_run' ttok 7 rfl (go_nil nd (then_norm (awp_seq (awp_go hmix (go_run' ttok 1 rfl (go_nil nd (then_norm ?_)))))))
  obtain ⟨y, hx4, h⟩ := of_obind h
  refine awp_seqJ (X := (Int × Int × (List Int))) [0] [1000] (fun w => [(10, (I w.1)), (11, (I w.2.1)), (12, (.arr 12 0 w.2.2.length))]) (fun w => [(12, some ⟨3, 1, w.2.2.map I⟩)]) (fun w => w = y) rfl rfl ?_ ?_
  ·skip
   refine awp_seq (awp_go hmix (go_run' ttok 1 rfl (go_nil nd (then_norm (awp_block ?_)))))
   refine awp_loopD (X := (Int × Int × (List Int) × Int)) (Y := (Int × Int × (List Int))) [0, 2, 3, 9] [1000] (fun q => [(10, (I q.1)), (11, (I q.2.1)), (12, (.arr 12 0 q.2.2.1.length)), (13, (U64 q.2.2.2))]) (fun q => [(12, some ⟨3, 1, q.2.2.1.map I⟩)]) (fun q => wire_Reader__Ints_s1 vr low high cv q.1 q.2.1 q.2.2.1 q.2.2.2) (cv.2.1, cv.2.2, [], 0) [(12, none), (1000, some 1000)] hx4 ⟨rfl, rfl, rfl, rfl, rfl, ⟨wkP_id _ rfl, wkP_id _ rfl, ⟨rfl, rfl, (by first | rfl | (simp [setI]; done) | omega | (dsimp only; omega) | (simp [setI]; omega))⟩, wkP_id _ rfl, trivial⟩, ⟨rfl, trivial⟩⟩ (fun x vR vz hz6 hk7 => ?_)
   obtain ⟨vat1, e1, l1, i⟩ := x
   change wire_Reader__Ints_s1 vr low high cv vat1 e1 l1 i = _ at hz6
   unfold wire_Reader__Ints_s1 at hz6
   refine awp_seq (awp_seq (awp_go hmix (go_run' ttok 4 rfl ?_)))
   refine go_gcase rfl rfl rfl (fun g8 => ?_) (fun g8 => ?_)
   ·rw [g8]
    replace hz6 := of_bif_t hz6 g8
    refine go_run' ttok 3 rfl (go_nil nd (then_norm ?_))
    refine awp_cond (b := (e1 == 0)) rfl (fun c9 => ?_) (fun c9 => ?_)
    ·replace hz6 := of_bif_t hz6 c9
     refine awp_skip (then_norm (awp_seq (awp_block (awp_seq (awp_go hmix (go_run' ttok 1 rfl (go_nil nd (then_norm (awp_seq (awp_go hmix (go_run' ttok 4 rfl ?_)))))))))))
     obtain ⟨sv, hv10, hz6⟩ := of_obind hz6
     refine go_callR (.tup [(I sv.1), (I sv.2.1), (I sv.2.2)]) [] [(1000, some ⟨150, 3, [(.agg [(S vr.s), (I vr.at_), (I vr.e)])]⟩)] [(1000, some 1000)] [(1000, some 1000)] fn112 (wire_Reader__signed_w vr vat1 low high sv hv10) rfl rfl rfl rfl rfl trivial ⟨⟨rfl, rfl, rfl⟩, (wkP_refl _ rfl), (wkP_refl _ rfl), (wkP_refl _ rfl), trivial⟩ rfl rfl ⟨⟨_, rfl, rfl, rfl, .inl ⟨rfl, nr_one rfl⟩⟩, trivial⟩ rfl rfl ⟨⟨_, rfl, rfl, rfl, .inl ⟨rfl, nr_one rfl⟩⟩, trivial⟩ (wkP_refl _ rfl) rfl (fun h => absurd rfl h) ⟨rfl, trivial⟩ rfl rfl rfl ?_
     refine go_run' ttok 7 rfl (go_nil nd (then_norm (awp_go hmix (go_run' ttok 3 rfl ?_))))
     obtain ⟨l2, hv11, hz6⟩ := of_obind hz6
     refine go_appT I l1 ([sv.1]) l2 hv11 (fun _ => rfl) (by first | rfl | (simp [setI]; done) | omega | (dsimp only; omega) | (simp [setI]; omega)) (by first | rfl | (simp [setI]; done) | omega | (dsimp only; omega) | (simp [setI]; omega)) ttok rfl rfl rfl rfl rfl rfl rfl rfl rfl rfl rfl rfl rfl rfl rfl rfl rfl ?_
     refine go_run' ttok 1 rfl (go_nil nd (block_norm (then_norm (awp_go hmix (go_run' ttok 3 rfl (go_nil nd ?_))))))
     have e12 := of_some hz6
     subst e12
     refine then_norm ⟨rfl, (sv.2.1, sv.2.2, l2, (WU64 (i + 1))), [(12, some 49), (1000, some 1000)], ⟨rfl, rfl, rfl, rfl, rfl, ⟨wkP_id _ rfl, wkP_id _ rfl, ⟨rfl, rfl, (by first | rfl | (simp [setI]; done) | omega | (dsimp only; omega) | (simp [setI]; omega))⟩, wkP_id _ rfl, trivial⟩, ⟨⟨_, rfl, rfl, rfl, wkX_map (enc := I) l2 (fun _ => rfl)⟩, trivial⟩⟩, hk7⟩
    ·replace hz6 := of_bif_f hz6 c9
     refine awp_exit (then_exit ?_)
     obtain ⟨t, hn13, hq⟩ := of_mapr' hz6
     subst hq
     have hq : t = _ := hk7
     subst hq
     refine then_exit (block_here ?_)
     have e14 := of_some hn13
     refine then_norm ⟨rfl, (vat1, e1, l1), [(12, some 12), (1000, some 1000)], ⟨rfl, rfl, rfl, rfl, rfl, ⟨wkP_id _ rfl, wkP_id _ rfl, ⟨rfl, rfl, (by first | rfl | (simp [setI]; done) | omega | (dsimp only; omega) | (simp [setI]; omega))⟩, trivial⟩, ⟨⟨_, rfl, rfl, rfl, wkX_map (enc := I) l1 (fun _ => rfl)⟩, trivial⟩⟩, e14⟩
   ·rw [g8]
    replace hz6 := of_bif_f hz6 g8
    refine go_run' ttok 3 rfl (go_nil nd (then_norm ?_))
    refine awp_cond rfl (fun h => by cases h) (fun tt0 => ?_)
    clear tt0
    refine awp_exit (then_exit ?_)
    obtain ⟨t1, hn15, hq⟩ := of_mapr' hz6
    subst hq
    have hq : t1 = _ := hk7
    subst hq
    refine then_exit (block_here ?_)
    have e16 := of_some hn15
    refine then_norm ⟨rfl, (vat1, e1, l1), [(12, some 12), (1000, some 1000)], ⟨rfl, rfl, rfl, rfl, rfl, ⟨wkP_id _ rfl, wkP_id _ rfl, ⟨rfl, rfl, (by first | rfl | (simp [setI]; done) | omega | (dsimp only; omega) | (simp [setI]; omega))⟩, trivial⟩, ⟨⟨_, rfl, rfl, rfl, wkX_map (enc := I) l1 (fun _ => rfl)⟩, trivial⟩⟩, e16⟩
  ·intro w hw5
   subst hw5
   obtain ⟨vat, e, l⟩ := w
   refine awp_seq (awp_go hmix (go_run' ttok 3 rfl ?_))
   obtain ⟨dv, hv17, h⟩ := of_let h
   refine go_callM (.tup []) [] [(1000, some ⟨150, 3, [(.agg [(S dv.s), (I dv.at_), (I dv.e)])]⟩)] [(1000, some 1000)] [(1000, some 1000)] fn111 (wire_Reader__done_w vr vat e dv hv17) rfl rfl rfl rfl rfl trivial ⟨⟨rfl, rfl, rfl⟩, (wkP_refl _ rfl), (wkP_refl _ rfl), trivial⟩ rfl rfl ⟨⟨_, rfl, rfl, rfl, .inl ⟨rfl, nr_one rfl⟩⟩, trivial⟩ rfl rfl ⟨⟨_, rfl, rfl, rfl, .inl ⟨rfl, nr_one rfl⟩⟩, trivial⟩ (wkP_refl _ rfl) rfl (fun h => absurd rfl h) rfl rfl rfl ?_
   refine go_nil nd (then_norm (awp_seq (awp_seq (awp_go hmix (go_run' ttok 2 rfl (go_nil nd (then_norm ?_)))))))
   refine awp_cond (b := (e != 0)) rfl (fun c18 => ?_) (fun c18 => ?_)
   ·replace h := of_bif_t h c18
    refine awp_seq (awp_go hmix (go_run' ttok 1 rfl (go_nil nd (then_norm (awp_ret (then_ret ?_))))))
    have e19 := of_some h
    subst e19
    refine ret_ret ?_
    exact finB [(1000, some 1000)] ttok rfl rfl rfl rfl (wkP_nilm) ⟨⟨_, rfl, rfl, rfl, .inl ⟨rfl, nr_one rfl⟩⟩, trivial⟩
   ·replace h := of_bif_f h c18
    refine awp_skip (then_norm (awp_seq (awp_go hmix (go_run' ttok 2 rfl (go_nil nd (then_norm ?_))))))
    refine awp_freezeM [] [1000] [(12, some ⟨3, 1, l.map I⟩)] [(1000, some 1000)] [(8, (encL I l))] [] rfl rfl rfl rfl rfl ⟨rfl, by decide, trivial⟩ ⟨(wkP_lend rfl (by first | rfl | (simp [setI]; done) | omega | (dsimp only; omega) | (simp [setI]; omega)) (fun _ => rfl)), trivial⟩ trivial ?_
    refine awp_ret ?_
    have e20 := of_some h
    subst e20
    refine ret_ret ?_
    exact finB [(1000, some 1000)] ttok rfl rfl rfl rfl (wkP_refl _ rfl) ⟨⟨_, rfl, rfl, rfl, .inl ⟨rfl, nr_one rfl⟩⟩, trivial⟩
noncomputable def wire_Reader__Ints_cs1 (N : Nat) (vr : Twire_Reader) (low : Int) (high : Int) (cv : (Int × Int × Int)) (vat1 : Int) (e1 : Int) (l1 : (List Int)) (i : Int) : Option ((Int × Int × (List Int) × Int) ⊕ (Int × Int × (List Int))) :=
 (bif (decide (i < cv.1)) then (bif (e1 == 0) then (Option.bind ((wire_Reader__signed_c N) vr vat1 low high) (fun sv => (Option.bind (appO 8 l1 ([sv.1])) (fun l2 => some (Sum.inl (sv.2.1, sv.2.2, l2, (WU64 (i + 1)))))))) else some (Sum.inr (vat1, e1, l1))) else some (Sum.inr (vat1, e1, l1)))
theorem wire_Reader__Ints_cs1_le (N : Nat) (vr : Twire_Reader) (low : Int) (high : Int) (cv : (Int × Int × Int)) (vat1 : Int) (e1 : Int) (l1 : (List Int)) (i : Int) : OLe (wire_Reader__Ints_cs1 N vr low high cv vat1 e1 l1 i) (wire_Reader__Ints_s1 vr low high cv vat1 e1 l1 i) := by
 unfold wire_Reader__Ints_cs1 wire_Reader__Ints_s1
 repeat' (first | exact ole_rfl | exact wire_Reader__counted_le _ _ _ _ | exact wire_Reader__signed_le _ _ _ _ _ | refine ole_bif ?_ ?_ | refine ole_bind ?_ (fun _ => ?_) | refine ole_let (fun _ => ?_) | refine ole_map ?_ | refine ole_elim (fun _ => ?_) (fun _ => ?_) | refine ole_loop (fun _ => ?_))
noncomputable def wire_Reader__Ints_c (N : Nat) (vr : Twire_Reader) (most : Int) (low : Int) (high : Int) : Option ((List Int) × Twire_Reader) :=
 (bif (wire_Reader__stopped_g vr) then some ([], vr) else (Option.bind ((wire_Reader__counted_c N) vr vr.at_ most) (fun cv => (Option.bind ((iterX N (fun q => wire_Reader__Ints_cs1 N vr low high cv q.1 q.2.1 q.2.2.1 q.2.2.2) (cv.2.1, cv.2.2, [], 0)) : Option (Int × Int × (List Int))) (fun w1 => (letB (wire_Reader__done_g vr w1.1 w1.2.1) (fun dv => (bif (w1.2.1 != 0) then some ([], dv) else some (w1.2.2, dv)))))))))
theorem wire_Reader__Ints_le (N : Nat) (vr : Twire_Reader) (most : Int) (low : Int) (high : Int) : OLe (wire_Reader__Ints_c N vr most low high) (wire_Reader__Ints_g vr most low high) := by
 unfold wire_Reader__Ints_c wire_Reader__Ints_g
 repeat' (first | exact ole_rfl | exact wire_Reader__counted_le _ _ _ _ | exact wire_Reader__signed_le _ _ _ _ _ | exact wire_Reader__Ints_cs1_le _ _ _ _ _ _ _ _ _ | refine ole_bif ?_ ?_ | refine ole_bind ?_ (fun _ => ?_) | refine ole_let (fun _ => ?_) | refine ole_map ?_ | refine ole_elim (fun _ => ?_) (fun _ => ?_) | refine ole_loop (fun _ => ?_))
noncomputable def wire_Reader__Err_g (vr : Twire_Reader) : Int :=
 vr.e
theorem wire_Reader__Err_w (vr : Twire_Reader) (r : Int) (h : wire_Reader__Err_g vr = r) : Holds Tryz.prog 113 [(.ref 1000 0 0)] [(1000, some ⟨150, 3, [(encTwire_Reader vr)]⟩)] (I r) [(1000, some ⟨150, 3, [(encTwire_Reader vr)]⟩)] := by
 unfold wire_Reader__Err_g at h
 refine holds_fn Tryz.func113 rfl Tryz.ntmps113 rfl rfl rfl (fun lim => ?_)
 refine awp_seq (awp_go hmix (go_run' ttok 1 rfl (go_nil nd (then_norm (awp_seq (awp_seq (awp_go hmix (go_run' ttok 1 rfl ?_))))))))
 refine go_step rfl (as_refNil (.inl ⟨rfl, rfl⟩) rfl Tryz.underlying96 rfl rfl) rfl rfl rfl ?_
 refine go_nil nd (then_norm ?_)
 refine awp_cond rfl (fun h => by cases h) (fun tt0 => ?_)
 clear tt0
 refine awp_skip (then_norm (awp_seq (awp_go hmix (go_run' ttok 1 rfl ?_))))
 refine go_step rfl (as_nilCheck rfl rfl) rfl rfl rfl ?_
 refine go_run' ttok 3 rfl (go_nil nd (then_norm (awp_ret ?_)))
 have e1 := h
 subst e1
 refine ret_ret ?_
 exact finB [(1000, some 1000)] ttok rfl rfl rfl rfl (wkP_refl _ rfl) ⟨⟨_, rfl, rfl, rfl, .inl ⟨rfl, nr_one rfl⟩⟩, trivial⟩
noncomputable def wire_Reader__Left_g (vr : Twire_Reader) : Int :=
 (W64 (((vr.s.size : Nat) : Int) - vr.at_))
theorem wire_Reader__Left_w (vr : Twire_Reader) (r : Int) (h : wire_Reader__Left_g vr = r) : Holds Tryz.prog 114 [(.ref 1000 0 0)] [(1000, some ⟨150, 3, [(encTwire_Reader vr)]⟩)] (I r) [(1000, some ⟨150, 3, [(encTwire_Reader vr)]⟩)] := by
 unfold wire_Reader__Left_g at h
 refine holds_fn Tryz.func114 rfl Tryz.ntmps114 rfl rfl rfl (fun lim => ?_)
 refine awp_seq (awp_go hmix (go_run' ttok 1 rfl (go_nil nd (then_norm (awp_seq (awp_seq (awp_go hmix (go_run' ttok 1 rfl ?_))))))))
 refine go_step rfl (as_refNil (.inl ⟨rfl, rfl⟩) rfl Tryz.underlying96 rfl rfl) rfl rfl rfl ?_
 refine go_nil nd (then_norm ?_)
 refine awp_cond rfl (fun h => by cases h) (fun tt0 => ?_)
 clear tt0
 refine awp_skip (then_norm (awp_seq (awp_go hmix (go_run' ttok 1 rfl ?_))))
 refine go_step rfl (as_nilCheck rfl rfl) rfl rfl rfl ?_
 refine go_run' ttok 4 rfl ?_
 refine go_step rfl (as_nilCheck rfl rfl) rfl rfl rfl ?_
 refine go_run' ttok 4 rfl ?_
 refine go_nil (fun _ => by kernel_rfl) ?_
 refine then_norm (awp_ret ?_)
 have e1 := h
 subst e1
 refine ret_ret ?_
 exact finB [(1000, some 1000)] ttok rfl rfl rfl rfl (wkP_refl _ rfl) ⟨⟨_, rfl, rfl, rfl, .inl ⟨rfl, nr_one rfl⟩⟩, trivial⟩
noncomputable def wire_Reader__End_g (vr : Twire_Reader) : Int :=
 (bif ((wire_Reader__Err_g vr) != 0) then (wire_Reader__Err_g vr) else (bif (decide (0 < (wire_Reader__Left_g vr))) then 4 else 0))
theorem wire_Reader__End_w (vr : Twire_Reader) (r : Int) (h : wire_Reader__End_g vr = r) : Holds Tryz.prog 63 [(.ref 1000 0 0)] [(1000, some ⟨150, 3, [(encTwire_Reader vr)]⟩)] (I r) [(1000, some ⟨150, 3, [(encTwire_Reader vr)]⟩)] := by
 unfold wire_Reader__End_g at h
 refine holds_fn Tryz.func63 rfl Tryz.ntmps63 rfl rfl rfl (fun lim => ?_)
 refine awp_seq (awp_go hmix (go_run' ttok 1 rfl (go_nil nd (then_norm (awp_seq (awp_seq (awp_go hmix (go_run' ttok 1 rfl ?_))))))))
 refine go_callR (I (wire_Reader__Err_g vr)) [] [(1000, some ⟨150, 3, [(.agg [(S vr.s), (I vr.at_), (I vr.e)])]⟩)] [(1000, some 1000)] [(1000, some 1000)] fn113 (wire_Reader__Err_w vr _ rfl) rfl rfl rfl rfl rfl trivial ⟨⟨rfl, rfl, rfl⟩, trivial⟩ rfl rfl ⟨⟨_, rfl, rfl, rfl, .inl ⟨rfl, nr_one rfl⟩⟩, trivial⟩ rfl rfl ⟨⟨_, rfl, rfl, rfl, .inl ⟨rfl, nr_one rfl⟩⟩, trivial⟩ (wkP_refl _ rfl) rfl (fun h => absurd rfl h) ⟨rfl, trivial⟩ rfl rfl rfl ?_
 refine go_run' ttok 1 rfl (go_nil nd (then_norm (awp_seq (awp_go hmix (go_run' ttok 2 rfl (go_nil nd (then_norm ?_)))))))
 refine awp_cond (b := ((wire_Reader__Err_g vr) != 0)) rfl (fun c1 => ?_) (fun c1 => ?_)
 ·replace h := of_bif_t h c1
  refine awp_seq (awp_go hmix (go_run' ttok 2 rfl (go_nil nd (then_norm (awp_ret (then_ret ?_))))))
  have e2 := h
  subst e2
  refine ret_ret ?_
  exact finB [(1000, some 1000)] ttok rfl rfl rfl rfl (wkP_refl _ rfl) ⟨⟨_, rfl, rfl, rfl, .inl ⟨rfl, nr_one rfl⟩⟩, trivial⟩
 ·replace h := of_bif_f h c1
  refine awp_skip (then_norm (awp_seq (awp_seq (awp_go hmix (go_run' ttok 1 rfl ?_)))))
  refine go_callR (I (wire_Reader__Left_g vr)) [] [(1000, some ⟨150, 3, [(.agg [(S vr.s), (I vr.at_), (I vr.e)])]⟩)] [(1000, some 1000)] [(1000, some 1000)] fn114 (wire_Reader__Left_w vr _ rfl) rfl rfl rfl rfl rfl trivial ⟨⟨rfl, rfl, rfl⟩, trivial⟩ rfl rfl ⟨⟨_, rfl, rfl, rfl, .inl ⟨rfl, nr_one rfl⟩⟩, trivial⟩ rfl rfl ⟨⟨_, rfl, rfl, rfl, .inl ⟨rfl, nr_one rfl⟩⟩, trivial⟩ (wkP_refl _ rfl) rfl (fun h => absurd rfl h) ⟨rfl, trivial⟩ rfl rfl rfl ?_
  refine go_run' ttok 1 rfl (go_nil nd (then_norm ?_))
  refine awp_cond (b := (decide (0 < (wire_Reader__Left_g vr)))) rfl (fun c3 => ?_) (fun c3 => ?_)
  ·replace h := of_bif_t h c3
   refine awp_seq (awp_go hmix (go_run' ttok 1 rfl (go_nil nd (then_norm (awp_ret (then_ret ?_))))))
   have e4 := h
   subst e4
   refine ret_ret ?_
   exact finB [(1000, some 1000)] ttok rfl rfl rfl rfl (wkP_refl _ rfl) ⟨⟨_, rfl, rfl, rfl, .inl ⟨rfl, nr_one rfl⟩⟩, trivial⟩
  ·replace h := of_bif_f h c3
   refine awp_skip (then_norm (awp_seq (awp_go hmix (go_run' ttok 1 rfl (go_nil nd (then_norm (awp_ret ?_)))))))
   have e5 := h
   subst e5
   refine ret_ret ?_
   exact finB [(1000, some 1000)] ttok rfl rfl rfl rfl (wkP_refl _ rfl) ⟨⟨_, rfl, rfl, rfl, .inl ⟨rfl, nr_one rfl⟩⟩, trivial⟩
noncomputable def board_toBox_g (n : (List Int)) : Option Bx :=
 (Option.bind (getI n 0) (fun e => (Option.bind (getI n 1) (fun e1 => (Option.bind (getI n 2) (fun e2 => (Option.bind (getI n 3) (fun e3 => (Option.bind (getI n 4) (fun e4 => (Option.bind (getI n 5) (fun e5 => some (⟨(⟨e, e1⟩ : Sp), (⟨e2, e3⟩ : Sp), (⟨e4, e5⟩ : Sp)⟩ : Bx)))))))))))))
theorem board_toBox_w (n : (List Int)) (r : Bx) (h : board_toBox_g n = some r) : Holds Tryz.prog 64 [((encL I) n)] [] (encBx r) [] := by
 unfold board_toBox_g at h
 refine holds_fn Tryz.func64 rfl Tryz.ntmps64 rfl rfl rfl (fun lim => ?_)
 refine awp_seq (awp_go hmix (go_run' ttok 1 rfl (go_nil nd (then_norm (awp_seq (awp_go hmix (go_run' ttok 1 rfl ?_)))))))
 obtain ⟨e, hv1, h⟩ := of_obind h
 refine go_indexT I n 0 e hv1 ttok rfl rfl rfl rfl rfl rfl rfl rfl rfl ?_
 refine go_run' ttok 2 rfl ?_
 obtain ⟨e1, hv2, h⟩ := of_obind h
 refine go_indexT I n 1 e1 hv2 ttok rfl rfl rfl rfl rfl rfl rfl rfl rfl ?_
 refine go_run' ttok 3 rfl ?_
 obtain ⟨e2, hv3, h⟩ := of_obind h
 refine go_indexT I n 2 e2 hv3 ttok rfl rfl rfl rfl rfl rfl rfl rfl rfl ?_
 refine go_run' ttok 2 rfl ?_
 obtain ⟨e3, hv4, h⟩ := of_obind h
 refine go_indexT I n 3 e3 hv4 ttok rfl rfl rfl rfl rfl rfl rfl rfl rfl ?_
 refine go_run' ttok 3 rfl ?_
 obtain ⟨e4, hv5, h⟩ := of_obind h
 refine go_indexT I n 4 e4 hv5 ttok rfl rfl rfl rfl rfl rfl rfl rfl rfl ?_
 refine go_run' ttok 2 rfl ?_
 obtain ⟨e5, hv6, h⟩ := of_obind h
 refine go_indexT I n 5 e5 hv6 ttok rfl rfl rfl rfl rfl rfl rfl rfl rfl ?_
 refine go_run' ttok 4 rfl ?_
 refine go_nil (fun _ => by kernel_rfl) ?_
 refine then_norm (awp_ret ?_)
 have e7 := of_some h
 subst e7
 refine ret_ret ?_
 refine fin0 ttok rfl rfl ?_
 exact (wkP_refl _ rfl)
noncomputable def board_toBox_c (N : Nat) (n : (List Int)) : Option Bx :=
 (Option.bind (getI n 0) (fun e => (Option.bind (getI n 1) (fun e1 => (Option.bind (getI n 2) (fun e2 => (Option.bind (getI n 3) (fun e3 => (Option.bind (getI n 4) (fun e4 => (Option.bind (getI n 5) (fun e5 => some (⟨(⟨e, e1⟩ : Sp), (⟨e2, e3⟩ : Sp), (⟨e4, e5⟩ : Sp)⟩ : Bx)))))))))))))
theorem board_toBox_le (N : Nat) (n : (List Int)) : OLe (board_toBox_c N n) (board_toBox_g n) := by
 unfold board_toBox_c board_toBox_g
 repeat' (first | exact ole_rfl | refine ole_bif ?_ ?_ | refine ole_bind ?_ (fun _ => ?_) | refine ole_let (fun _ => ?_) | refine ole_map ?_ | refine ole_elim (fun _ => ?_) (fun _ => ?_) | refine ole_loop (fun _ => ?_))
theorem eqT71_1 : eqB Tryz.prog shDf 71 = true := by kernel_rfl
theorem eqT71_2 : (Tryz.prog).eqGuardType (Tryz.prog).depth 71 = false := by kernel_rfl
noncomputable def api_Defect__s1 (s1 : (List Df)) (s2 : (List Df)) (vv : Int) : Option (Int ⊕ (Bool ⊕ Unit)) :=
 (bif (decide (vv < ((s1.length : Nat) : Int))) then (Option.bind (getI s1 vv) (fun e => (Option.bind (getI s2 vv) (fun e1 => (bif (!(eqV encDf e e1)) then some (Sum.inr (Sum.inl false)) else some (Sum.inl (W64 (vv + 1)))))))) else some (Sum.inr (Sum.inr ())))
noncomputable def api_Defect__g (s1 : (List Df)) (s2 : (List Df)) : Option Bool :=
 (bif (((s1.length : Nat) : Int) != ((s2.length : Nat) : Int)) then some false else (Option.bind ((loopO (fun q => api_Defect__s1 s1 s2 q) 0) : Option (Bool ⊕ Unit)) (Sum.elim (fun q => some q) (fun _ => some true))))
theorem api_Defect__w (s1 : (List Df)) (s2 : (List Df)) (r : Bool) (h : api_Defect__g s1 s2 = some r) : Holds Tryz.prog 91 [((encL encDf) s1), ((encL encDf) s2)] [] (B r) [] := by
 unfold api_Defect__g at h
 refine holds_fn Tryz.func91 rfl Tryz.ntmps91 rfl rfl rfl (fun lim => ?_)
 refine awp_seq (awp_go hmix (go_run' ttok 1 rfl (go_nil nd (then_norm (awp_seq (awp_seq (awp_go hmix (go_run' ttok 1 rfl ?_))))))))
 refine go_lenT encDf s1 ttok rfl rfl rfl rfl rfl rfl ?_
 refine go_run' ttok 1 rfl ?_
 refine go_lenT encDf s2 ttok rfl rfl rfl rfl rfl rfl ?_
 refine go_run' ttok 1 rfl (go_nil nd (then_norm ?_))
 refine awp_cond (b := (((s1.length : Nat) : Int) != ((s2.length : Nat) : Int))) rfl (fun c1 => ?_) (fun c1 => ?_)
 ·replace h := of_bif_t h c1
  refine awp_seq (awp_go hmix (go_run' ttok 1 rfl (go_nil nd (then_norm (awp_ret (then_ret ?_))))))
  have e2 := of_some h
  subst e2
  refine ret_ret ?_
  refine fin0 ttok rfl rfl ?_
  exact (wkP_refl _ rfl)
 ·replace h := of_bif_f h c1
  refine awp_skip (then_norm ?_)
  obtain ⟨y, hx3, h⟩ := of_obind h
  refine awp_seqJ (X := Unit) [] [] (fun _ => []) (fun _ => []) (fun w => Sum.inr w = y) rfl rfl ?_ ?_
  ·skip
   refine awp_seq (awp_go hmix (go_run' ttok 1 rfl ?_))
   refine go_lenT encDf s1 ttok rfl rfl rfl rfl rfl rfl ?_
   refine go_run' ttok 1 rfl (go_nil nd (then_norm (awp_block ?_)))
   refine awp_loopD (X := Int) (Y := (Bool ⊕ Unit)) [0, 1, 12] [] (fun q => [(13, (I q))]) (fun q => []) (fun q => api_Defect__s1 s1 s2 q) 0 [] hx3 ⟨rfl, rfl, rfl, rfl, rfl, ⟨wkP_id _ rfl, trivial⟩, trivial⟩ (fun vv vR vz hz5 hk6 => ?_)
   change api_Defect__s1 s1 s2 vv = _ at hz5
   unfold api_Defect__s1 at hz5
   refine awp_seq (awp_go hmix (go_run' ttok 1 rfl (go_nil nd (then_norm (awp_seq ?_)))))
   refine awp_cond (b := (decide (vv < ((s1.length : Nat) : Int)))) rfl (fun c7 => ?_) (fun c7 => ?_)
   ·replace hz5 := of_bif_t hz5 c7
    refine awp_skip (then_norm (awp_seq (awp_block (awp_seq (awp_go hmix (go_run' ttok 2 rfl (go_nil nd (then_norm (awp_seq (awp_go hmix (go_run' ttok 2 rfl ?_)))))))))))
    obtain ⟨e, hv8, hz5⟩ := of_obind hz5
    refine go_indexT encDf s1 vv e hv8 ttok rfl rfl rfl rfl rfl rfl rfl rfl rfl ?_
    refine go_run' ttok 3 rfl ?_
    obtain ⟨e1, hv9, hz5⟩ := of_obind hz5
    refine go_indexT encDf s2 vv e1 hv9 ttok rfl rfl rfl rfl rfl rfl rfl rfl rfl ?_
    refine go_run' ttok 1 rfl ?_
    refine go_step rfl (as_neAgg shDf rfl eqT71_1 eqT71_2 (by decide) rfl rfl rfl rfl rfl) rfl rfl rfl ?_
    refine go_nil (fun _ => by kernel_rfl) ?_
    refine then_norm ?_
    refine awp_cond (b := (!(eqV encDf e e1))) rfl (fun c10 => ?_) (fun c10 => ?_)
    ·replace hz5 := of_bif_t hz5 c10
     refine awp_seq (awp_go hmix (go_run' ttok 1 rfl (go_nil nd (then_norm (awp_ret (block_ret (then_ret ?_)))))))
     obtain ⟨t, hn11, hq⟩ := of_mapr' hz5
     subst hq
     have hq : t = _ := hk6
     subst hq
     refine then_ret (block_ret ?_)
     obtain ⟨t1, hn12, hq⟩ := of_mapl' hn11
     subst hq
     have hq := of_inl h
     replace hq := of_some hq
     subst hq
     refine then_ret ?_
     have e13 := of_some hn12
     subst e13
     refine ret_ret ?_
     refine fin0 ttok rfl rfl ?_
     exact (wkP_refl _ rfl)
    ·replace hz5 := of_bif_f hz5 c10
     refine awp_skip (block_norm (then_norm (awp_go hmix (go_run' ttok 2 rfl (go_nil nd ?_)))))
     have e14 := of_some hz5
     subst e14
     refine then_norm ⟨rfl, (W64 (vv + 1)), [], ⟨rfl, rfl, rfl, rfl, rfl, ⟨wkP_id _ rfl, trivial⟩, trivial⟩, hk6⟩
   ·replace hz5 := of_bif_f hz5 c7
    refine awp_exit (then_exit ?_)
    obtain ⟨t2, hn15, hq⟩ := of_mapr' hz5
    subst hq
    have hq : t2 = _ := hk6
    subst hq
    refine then_exit (block_here ?_)
    have e16 := of_some hn15
    refine then_norm ⟨rfl, (), [], ⟨rfl, rfl, rfl, rfl, rfl, trivial, trivial⟩, e16⟩
  ·intro w hw4
   subst hw4
   replace h := of_inr h
   refine awp_seq (awp_go hmix (go_run' ttok 1 rfl (go_nil nd (then_norm (awp_ret ?_)))))
   have e17 := of_some h
   subst e17
   refine ret_ret ?_
   refine fin0 ttok rfl rfl ?_
   exact (wkP_refl _ rfl)
noncomputable def api_Defect__cs1 (N : Nat) (s1 : (List Df)) (s2 : (List Df)) (vv : Int) : Option (Int ⊕ (Bool ⊕ Unit)) :=
 (bif (decide (vv < ((s1.length : Nat) : Int))) then (Option.bind (getI s1 vv) (fun e => (Option.bind (getI s2 vv) (fun e1 => (bif (!(eqV encDf e e1)) then some (Sum.inr (Sum.inl false)) else some (Sum.inl (W64 (vv + 1)))))))) else some (Sum.inr (Sum.inr ())))
theorem api_Defect__cs1_le (N : Nat) (s1 : (List Df)) (s2 : (List Df)) (vv : Int) : OLe (api_Defect__cs1 N s1 s2 vv) (api_Defect__s1 s1 s2 vv) := by
 unfold api_Defect__cs1 api_Defect__s1
 repeat' (first | exact ole_rfl | refine ole_bif ?_ ?_ | refine ole_bind ?_ (fun _ => ?_) | refine ole_let (fun _ => ?_) | refine ole_map ?_ | refine ole_elim (fun _ => ?_) (fun _ => ?_) | refine ole_loop (fun _ => ?_))
noncomputable def api_Defect__c (N : Nat) (s1 : (List Df)) (s2 : (List Df)) : Option Bool :=
 (bif (((s1.length : Nat) : Int) != ((s2.length : Nat) : Int)) then some false else (Option.bind ((iterX N (fun q => api_Defect__cs1 N s1 s2 q) 0) : Option (Bool ⊕ Unit)) (Sum.elim (fun q => some q) (fun _ => some true))))
theorem api_Defect__le (N : Nat) (s1 : (List Df)) (s2 : (List Df)) : OLe (api_Defect__c N s1 s2) (api_Defect__g s1 s2) := by
 unfold api_Defect__c api_Defect__g
 repeat' (first | exact ole_rfl | exact api_Defect__cs1_le _ _ _ _ | refine ole_bif ?_ ?_ | refine ole_bind ?_ (fun _ => ?_) | refine ole_let (fun _ => ?_) | refine ole_map ?_ | refine ole_elim (fun _ => ?_) (fun _ => ?_) | refine ole_loop (fun _ => ?_))
theorem eqT25_1 : eqB Tryz.prog shBx 25 = true := by kernel_rfl
theorem eqT25_2 : (Tryz.prog).eqGuardType (Tryz.prog).depth 25 = false := by kernel_rfl
theorem eqT28_1 : eqB Tryz.prog shTCell 28 = true := by kernel_rfl
theorem eqT28_2 : (Tryz.prog).eqGuardType (Tryz.prog).depth 28 = false := by kernel_rfl
end Go.Proofs.YtpoehckffpbfiaaGreat
