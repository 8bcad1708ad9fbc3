/- A1e: what functions of the program compute (written by mod.py). -/
import Derived.Test.YtpoehckffpbfiaaGreatXNA1d
import Derived.KernelRfl
namespace Go.Proofs.YtpoehckffpbfiaaGreat
open Go Go.Ab
set_option linter.unusedSimpArgs false
set_option linter.unusedVariables false
set_option linter.unusedSectionVars false
set_option maxRecDepth 20000
set_option maxHeartbeats 1000000
noncomputable def board_Same_g (a : TBoard) (b : TBoard) : Option Bool :=
 (bif (bEq a.Id b.Id) then (bif (bEq a.Log b.Log) then (bif (bEq a.Species b.Species) then (bif (a.Product == b.Product) then (bif (eqV encBx a.Box b.Box) then (bif (a.Volume == b.Volume) then (Option.bind (api_Defect__g a.Defects b.Defects) (fun dv => (bif dv then (bif (a.Wane == b.Wane) then (bif (eqV encTCell a.Cell b.Cell) then (bif (a.Dried == b.Dried) then some (a.Grade == b.Grade) else some false) else some false) else some false) else some false))) else some false) else some false) else some false) else some false) else some false) else some false)
theorem board_Same_w (a : TBoard) (b : TBoard) (r : Bool) (h : board_Same_g a b = some r) : Holds Tryz.prog 44 [(encTBoard a), (encTBoard b)] [] (B r) [] := by
 unfold board_Same_g at h
 refine holds_fn Tryz.func44 rfl Tryz.ntmps44 rfl rfl rfl (fun lim => ?_)
 refine awp_seq (awp_go hmix (go_run' ttok 3 rfl (go_nil nd (then_norm (awp_seq (awp_go hmix (go_run' ttok 4 rfl ?_)))))))
 refine go_eqlS a.Id b.Id rfl rfl rfl rfl rfl ?_
 refine go_run' ttok 1 rfl ?_
 refine go_gcase rfl rfl rfl (fun g1 => ?_) (fun g1 => ?_)
 ·rw [g1]
  replace h := of_bif_t h g1
  refine go_run' ttok 4 rfl ?_
  refine go_eqlS a.Log b.Log rfl rfl rfl rfl rfl ?_
  refine go_run' ttok 2 rfl ?_
  refine go_gcase rfl rfl rfl (fun g2 => ?_) (fun g2 => ?_)
  ·rw [g2]
   replace h := of_bif_t h g2
   refine go_run' ttok 4 rfl ?_
   refine go_eqlS a.Species b.Species rfl rfl rfl rfl rfl ?_
   refine go_run' ttok 2 rfl ?_
   refine go_gcase rfl rfl rfl (fun g3 => ?_) (fun g3 => ?_)
   ·rw [g3]
    replace h := of_bif_t h g3
    refine go_run' ttok 7 rfl ?_
    refine go_gcase rfl rfl rfl (fun g4 => ?_) (fun g4 => ?_)
    ·rw [g4]
     replace h := of_bif_t h g4
     refine go_run' ttok 4 rfl ?_
     refine go_step rfl (as_eqAgg shBx rfl eqT25_1 eqT25_2 (by decide) rfl rfl rfl rfl rfl) rfl rfl rfl ?_
     refine go_run' ttok 2 rfl ?_
     refine go_gcase rfl rfl rfl (fun g5 => ?_) (fun g5 => ?_)
     ·rw [g5]
      replace h := of_bif_t h g5
      refine go_run' ttok 7 rfl ?_
      refine go_gcase rfl rfl rfl (fun g6 => ?_) (fun g6 => ?_)
      ·rw [g6]
       replace h := of_bif_t h g6
       refine go_run' ttok 4 rfl ?_
       obtain ⟨dv, hv7, h⟩ := of_obind h
       refine go_call fn91 (api_Defect__w a.Defects b.Defects dv hv7) rfl rfl rfl rfl rfl rfl rfl ?_
       refine go_run' ttok 2 rfl ?_
       refine go_gcase rfl rfl rfl (fun g8 => ?_) (fun g8 => ?_)
       ·rw [g8]
        replace h := of_bif_t h g8
        refine go_run' ttok 7 rfl ?_
        refine go_gcase rfl rfl rfl (fun g9 => ?_) (fun g9 => ?_)
        ·rw [g9]
         replace h := of_bif_t h g9
         refine go_run' ttok 4 rfl ?_
         refine go_step rfl (as_eqAgg shTCell rfl eqT28_1 eqT28_2 (by decide) rfl rfl rfl rfl rfl) rfl rfl rfl ?_
         refine go_run' ttok 2 rfl ?_
         refine go_gcase rfl rfl rfl (fun g10 => ?_) (fun g10 => ?_)
         ·rw [g10]
          replace h := of_bif_t h g10
          refine go_run' ttok 4 rfl ?_
          refine go_step rfl (as_eqBool rfl (ttok _ _ rfl) rfl rfl rfl) rfl rfl rfl ?_
          refine go_run' ttok 2 rfl ?_
          refine go_gcase rfl rfl rfl (fun g11 => ?_) (fun g11 => ?_)
          ·rw [g11]
           replace h := of_bif_t h g11
           refine go_run' ttok 7 rfl (go_nil nd (then_norm (awp_ret ?_)))
           have e12 := of_some h
           subst e12
           refine ret_ret ?_
           refine fin0 ttok rfl rfl ?_
           exact (wkP_refl _ rfl)
          ·rw [g11]
           replace h := of_bif_f h g11
           refine go_run' ttok 7 rfl (go_nil nd (then_norm (awp_ret ?_)))
           have e13 := of_some h
           subst e13
           refine ret_ret ?_
           refine fin0 ttok rfl rfl ?_
           exact (wkP_refl _ rfl)
         ·rw [g10]
          replace h := of_bif_f h g10
          refine go_run' ttok 14 rfl (go_nil nd (then_norm (awp_ret ?_)))
          have e14 := of_some h
          subst e14
          refine ret_ret ?_
          refine fin0 ttok rfl rfl ?_
          exact (wkP_refl _ rfl)
        ·rw [g9]
         replace h := of_bif_f h g9
         refine go_run' ttok 21 rfl (go_nil nd (then_norm (awp_ret ?_)))
         have e15 := of_some h
         subst e15
         refine ret_ret ?_
         refine fin0 ttok rfl rfl ?_
         exact (wkP_refl _ rfl)
       ·rw [g8]
        replace h := of_bif_f h g8
        refine go_run' ttok 28 rfl (go_nil nd (then_norm (awp_ret ?_)))
        have e16 := of_some h
        subst e16
        refine ret_ret ?_
        refine fin0 ttok rfl rfl ?_
        exact (wkP_refl _ rfl)
      ·rw [g6]
       replace h := of_bif_f h g6
       refine go_run' ttok 35 rfl (go_nil nd (then_norm (awp_ret ?_)))
       have e17 := of_some h
       subst e17
       refine ret_ret ?_
       refine fin0 ttok rfl rfl ?_
       exact (wkP_refl _ rfl)
     ·rw [g5]
      replace h := of_bif_f h g5
      refine go_run' ttok 42 rfl (go_nil nd (then_norm (awp_ret ?_)))
      have e18 := of_some h
      subst e18
      refine ret_ret ?_
      refine fin0 ttok rfl rfl ?_
      exact (wkP_refl _ rfl)
    ·rw [g4]
     replace h := of_bif_f h g4
     refine go_run' ttok 49 rfl (go_nil nd (then_norm (awp_ret ?_)))
     have e19 := of_some h
     subst e19
     refine ret_ret ?_
     refine fin0 ttok rfl rfl ?_
     exact (wkP_refl _ rfl)
   ·rw [g3]
    replace h := of_bif_f h g3
    refine go_run' ttok 56 rfl (go_nil nd (then_norm (awp_ret ?_)))
    have e20 := of_some h
    subst e20
    refine ret_ret ?_
    refine fin0 ttok rfl rfl ?_
    exact (wkP_refl _ rfl)
  ·rw [g2]
   replace h := of_bif_f h g2
   refine go_run' ttok 63 rfl (go_nil nd (then_norm (awp_ret ?_)))
   have e21 := of_some h
   subst e21
   refine ret_ret ?_
   refine fin0 ttok rfl rfl ?_
   exact (wkP_refl _ rfl)
 ·rw [g1]
  replace h := of_bif_f h g1
  refine go_run' ttok 70 rfl (go_nil nd (then_norm (awp_ret ?_)))
  have e22 := of_some h
  subst e22
  refine ret_ret ?_
  refine fin0 ttok rfl rfl ?_
  exact (wkP_refl _ rfl)
noncomputable def board_Same_c (N : Nat) (a : TBoard) (b : TBoard) : Option Bool :=
 (bif (bEq a.Id b.Id) then (bif (bEq a.Log b.Log) then (bif (bEq a.Species b.Species) then (bif (a.Product == b.Product) then (bif (eqV encBx a.Box b.Box) then (bif (a.Volume == b.Volume) then (Option.bind ((api_Defect__c N) a.Defects b.Defects) (fun dv => (bif dv then (bif (a.Wane == b.Wane) then (bif (eqV encTCell a.Cell b.Cell) then (bif (a.Dried == b.Dried) then some (a.Grade == b.Grade) else some false) else some false) else some false) else some false))) else some false) else some false) else some false) else some false) else some false) else some false)
theorem board_Same_le (N : Nat) (a : TBoard) (b : TBoard) : OLe (board_Same_c N a b) (board_Same_g a b) := by
 unfold board_Same_c board_Same_g
 repeat' (first | exact ole_rfl | exact api_Defect__le _ _ _ | refine ole_bif ?_ ?_ | refine ole_bind ?_ (fun _ => ?_) | refine ole_let (fun _ => ?_) | refine ole_map ?_ | refine ole_elim (fun _ => ?_) (fun _ => ?_) | refine ole_loop (fun _ => ?_))
noncomputable def board_Length_g (b : TBoard) : Int :=
 (bif (!(board_isAlong_g b.Box.z)) then 0 else (board_length_g b.Box.z))
theorem board_Length_w (b : TBoard) (r : Int) (h : board_Length_g b = r) : Holds Tryz.prog 45 [(encTBoard b)] [] (I r) [] := by
 unfold board_Length_g at h
 refine holds_fn Tryz.func45 rfl Tryz.ntmps45 rfl rfl rfl (fun lim => ?_)
 refine awp_seq (awp_go hmix (go_run' ttok 2 rfl (go_nil nd (then_norm (awp_seq (awp_seq (awp_go hmix (go_run' ttok 3 rfl ?_))))))))
 refine go_call fn79 (board_isAlong_w b.Box.z _ rfl) rfl rfl rfl rfl rfl rfl rfl ?_
 refine go_run' ttok 1 rfl (go_nil nd (then_norm ?_))
 refine awp_cond (b := (!(board_isAlong_g b.Box.z))) rfl (fun c1 => ?_) (fun c1 => ?_)
 ·replace h := of_bif_t h c1
  refine awp_seq (awp_go hmix (go_run' ttok 1 rfl (go_nil nd (then_norm (awp_ret (then_ret ?_))))))
  have e2 := h
  subst e2
  refine ret_ret ?_
  refine fin0 ttok rfl rfl ?_
  exact (wkP_refl _ rfl)
 ·replace h := of_bif_f h c1
  refine awp_skip (then_norm (awp_seq (awp_go hmix (go_run' ttok 3 rfl ?_))))
  refine go_call fn27 (board_length_w b.Box.z _ rfl) rfl rfl rfl rfl rfl rfl rfl ?_
  refine go_run' ttok 1 rfl (go_nil nd (then_norm (awp_ret ?_)))
  have e3 := h
  subst e3
  refine ret_ret ?_
  refine fin0 ttok rfl rfl ?_
  exact (wkP_refl _ rfl)
noncomputable def l30_Short_s1 (x : Tsawmilllaw30_Log) (i : Int) : Option (Int ⊕ (Bool ⊕ Unit)) :=
 (bif (decide (i < ((x.Solid.length : Nat) : Int))) then (Option.bind (getI x.Solid i) (fun e => (bif (decide (130 < ((e.Sec.Rows.length : Nat) : Int))) then some (Sum.inr (Sum.inl false)) else some (Sum.inl (W64 (i + 1)))))) else some (Sum.inr (Sum.inr ())))
noncomputable def l30_Short_g (x : Tsawmilllaw30_Log) : Option Bool :=
 (bif (decide (30 < ((x.Solid.length : Nat) : Int))) then some false else (bif (decide (100 < ((x.Defects.length : Nat) : Int))) then some false else (Option.bind ((loopO (fun q => l30_Short_s1 x q) 0) : Option (Bool ⊕ Unit)) (Sum.elim (fun q => some q) (fun _ => some true)))))
theorem l30_Short_w (x : Tsawmilllaw30_Log) (r : Bool) (h : l30_Short_g x = some r) : Holds Tryz.prog 12 [(encTsawmilllaw30_Log x)] [] (B r) [] := by
 unfold l30_Short_g at h
 refine holds_fn Tryz.func12 rfl Tryz.ntmps12 rfl rfl rfl (fun lim => ?_)
 refine awp_seq (awp_go hmix (go_run' ttok 2 rfl (go_nil nd (then_norm (awp_seq (awp_seq (awp_go hmix (go_run' ttok 2 rfl ?_))))))))
 refine go_lenT encTSlice x.Solid ttok rfl rfl rfl rfl rfl rfl ?_
 refine go_run' ttok 2 rfl ?_
 refine go_gcase rfl rfl rfl (fun g1 => ?_) (fun g1 => ?_)
 ·rw [g1]
  replace h := of_bif_t h g1
  refine go_run' ttok 5 rfl (go_nil nd (then_norm ?_))
  refine awp_cond rfl (fun tt0 => ?_) (fun h => by cases h)
  clear tt0
  refine awp_seq (awp_go hmix (go_run' ttok 1 rfl (go_nil nd (then_norm (awp_ret (then_ret ?_))))))
  have e2 := of_some h
  subst e2
  refine ret_ret ?_
  refine fin0 ttok rfl rfl ?_
  exact (wkP_refl _ rfl)
 ·rw [g1]
  replace h := of_bif_f h g1
  refine go_run' ttok 2 rfl ?_
  refine go_lenT encDf x.Defects ttok rfl rfl rfl rfl rfl rfl ?_
  refine go_run' ttok 2 rfl (go_nil nd (then_norm ?_))
  refine awp_cond (b := (decide (100 < ((x.Defects.length : Nat) : Int)))) rfl (fun c3 => ?_) (fun c3 => ?_)
  ·replace h := of_bif_t h c3
   refine awp_seq (awp_go hmix (go_run' ttok 1 rfl (go_nil nd (then_norm (awp_ret (then_ret ?_))))))
   have e4 := of_some h
   subst e4
   refine ret_ret ?_
   refine fin0 ttok rfl rfl ?_
   exact (wkP_refl _ rfl)
  ·replace h := of_bif_f h c3
   refine awp_skip (then_norm ?_)
   obtain ⟨y, hx5, h⟩ := of_obind h
   refine awp_seqJ (X := Unit) [] [] (fun _ => []) (fun _ => []) (fun w => Sum.inr w = y) rfl rfl ?_ ?_
   ·skip
    refine awp_seq (awp_go hmix (go_run' ttok 1 rfl (go_nil nd (then_norm (awp_block ?_)))))
    refine awp_loopD (X := Int) (Y := (Bool ⊕ Unit)) [1] [1] (fun q => [(3, (I q))]) (fun q => []) (fun q => l30_Short_s1 x q) 0 [(1, some 1)] hx5 ⟨rfl, rfl, rfl, rfl, rfl, ⟨wkP_id _ rfl, trivial⟩, trivial⟩ (fun i vR vz hz7 hk8 => ?_)
    change l30_Short_s1 x i = _ at hz7
    unfold l30_Short_s1 at hz7
    refine awp_seq (awp_seq (awp_go hmix (go_run' ttok 3 rfl ?_)))
    refine go_lenT encTSlice x.Solid ttok rfl rfl rfl rfl rfl rfl ?_
    refine go_run' ttok 1 rfl (go_nil nd (then_norm ?_))
    refine awp_cond (b := (decide (i < ((x.Solid.length : Nat) : Int)))) rfl (fun c9 => ?_) (fun c9 => ?_)
    ·replace hz7 := of_bif_t hz7 c9
     refine awp_skip (then_norm (awp_seq (awp_block (awp_seq (awp_go hmix (go_run' ttok 3 rfl ?_))))))
     obtain ⟨e, hv10, hz7⟩ := of_obind hz7
     refine go_indexT encTSlice x.Solid i e hv10 ttok rfl rfl rfl rfl rfl rfl rfl rfl rfl ?_
     refine go_run' ttok 3 rfl ?_
     refine go_lenT encSp e.Sec.Rows ttok rfl rfl rfl rfl rfl rfl ?_
     refine go_run' ttok 1 rfl (go_nil nd (then_norm ?_))
     refine awp_cond (b := (decide (130 < ((e.Sec.Rows.length : Nat) : Int)))) rfl (fun c11 => ?_) (fun c11 => ?_)
     ·replace hz7 := of_bif_t hz7 c11
      refine awp_seq (awp_go hmix (go_run' ttok 1 rfl (go_nil nd (then_norm (awp_ret (block_ret (then_ret ?_)))))))
      obtain ⟨t, hn12, hq⟩ := of_mapr' hz7
      subst hq
      have hq : t = _ := hk8
      subst hq
      refine then_ret (block_ret ?_)
      obtain ⟨t1, hn13, hq⟩ := of_mapl' hn12
      subst hq
      have hq := of_inl h
      replace hq := of_some hq
      subst hq
      refine then_ret ?_
      have e14 := of_some hn13
      subst e14
      refine ret_ret ?_
      refine fin0 ttok rfl rfl ?_
      exact (wkP_refl _ rfl)
     ·replace hz7 := of_bif_f hz7 c11
      refine awp_skip (block_norm (then_norm (awp_go hmix (go_run' ttok 3 rfl (go_nil nd ?_)))))
      have e15 := of_some hz7
      subst e15
      refine then_norm ⟨rfl, (W64 (i + 1)), [(1, some 1)], ⟨rfl, rfl, rfl, rfl, rfl, ⟨wkP_id _ rfl, trivial⟩, trivial⟩, hk8⟩
    ·replace hz7 := of_bif_f hz7 c9
     refine awp_exit (then_exit ?_)
     obtain ⟨t2, hn16, hq⟩ := of_mapr' hz7
     subst hq
     have hq : t2 = _ := hk8
     subst hq
     refine then_exit (block_here ?_)
     have e17 := of_some hn16
     refine then_norm ⟨rfl, (), [], ⟨rfl, rfl, rfl, rfl, rfl, trivial, trivial⟩, e17⟩
   ·intro w hw6
    subst hw6
    replace h := of_inr h
    refine awp_seq (awp_go hmix (go_run' ttok 1 rfl (go_nil nd (then_norm (awp_ret ?_)))))
    have e18 := of_some h
    subst e18
    refine ret_ret ?_
    refine fin0 ttok rfl rfl ?_
    exact (wkP_refl _ rfl)
noncomputable def l30_made_g (m : Tsawmilllaw30_Made) (x : Tsawmilllaw30_Log) : Option TBoard :=
 (Option.bind (board_New_g m.Id m.Log m.Species x.Solid x.Defects m.Product m.Box) (fun nv => some nv))
theorem l30_made_w (m : Tsawmilllaw30_Made) (x : Tsawmilllaw30_Log) (r : TBoard) (h : l30_made_g m x = some r) : Holds Tryz.prog 14 [(encTsawmilllaw30_Made m), (encTsawmilllaw30_Log x)] [] (encTBoard r) [] := by
 unfold l30_made_g at h
 refine holds_fn Tryz.func14 rfl Tryz.ntmps14 rfl rfl rfl (fun lim => ?_)
 refine awp_seq (awp_go hmix (go_run' ttok 3 rfl (go_nil nd (then_norm (awp_seq (awp_go hmix (go_run' ttok 14 rfl ?_)))))))
 obtain ⟨nv, hv1, h⟩ := of_obind h
 refine go_call fn42 (board_New_w m.Id m.Log m.Species x.Solid x.Defects m.Product m.Box nv hv1) rfl rfl rfl rfl rfl rfl rfl ?_
 refine go_run' ttok 1 rfl (go_nil nd (then_norm (awp_ret ?_)))
 have e2 := of_some h
 subst e2
 refine ret_ret ?_
 refine fin0 ttok rfl rfl ?_
 exact (wkP_refl _ rfl)
noncomputable def r10_beyond_g (n : Int) : Bool :=
 (bif (decide (n < (-600))) then true else (decide (600 < n)))
theorem r10_beyond_w (n : Int) (r : Bool) (h : r10_beyond_g n = r) : Holds Tryz.prog 166 [(I n)] [] (B r) [] := by
 unfold r10_beyond_g at h
 refine holds_fn Tryz.func166 rfl Tryz.ntmps166 rfl rfl rfl (fun lim => ?_)
 refine awp_seq (awp_go hmix (go_run' ttok 1 rfl (go_nil nd (then_norm (awp_seq (awp_go hmix (go_run' ttok 3 rfl ?_)))))))
 refine go_gcase rfl rfl rfl (fun g1 => ?_) (fun g1 => ?_)
 ·rw [g1]
  replace h := of_bif_t h g1
  refine go_run' ttok 4 rfl (go_nil nd (then_norm (awp_ret ?_)))
  have e2 := h
  subst e2
  refine ret_ret ?_
  refine fin0 ttok rfl rfl ?_
  exact (wkP_refl _ rfl)
 ·rw [g1]
  replace h := of_bif_f h g1
  refine go_run' ttok 4 rfl (go_nil nd (then_norm (awp_ret ?_)))
  have e3 := h
  subst e3
  refine ret_ret ?_
  refine fin0 ttok rfl rfl ?_
  exact (wkP_refl _ rfl)
noncomputable def r10_empty_g (s : Sp) : Bool :=
 (decide (s.b ≤ s.a))
theorem r10_empty_w (s : Sp) (r : Bool) (h : r10_empty_g s = r) : Holds Tryz.prog 167 [(encSp s)] [] (B r) [] := by
 unfold r10_empty_g at h
 refine holds_fn Tryz.func167 rfl Tryz.ntmps167 rfl rfl rfl (fun lim => ?_)
 refine awp_seq (awp_go hmix (go_run' ttok 2 rfl (go_nil nd (then_norm (awp_seq (awp_go hmix (go_run' ttok 6 rfl (go_nil nd (then_norm (awp_ret ?_))))))))))
 have e1 := h
 subst e1
 refine ret_ret ?_
 refine fin0 ttok rfl rfl ?_
 exact (wkP_refl _ rfl)
noncomputable def r10_Check_s1 (s : TSection) (i : Int) : Option (Int ⊕ (Int ⊕ Unit)) :=
 (bif (decide (i < ((s.Rows.length : Nat) : Int))) then (Option.bind (getI s.Rows i) (fun e => (bif (r10_beyond_g e.a) then some (Sum.inr (Sum.inl 9)) else (Option.bind (getI s.Rows i) (fun e1 => (bif (r10_beyond_g e1.b) then some (Sum.inr (Sum.inl 9)) else some (Sum.inl (W64 (i + 1))))))))) else some (Sum.inr (Sum.inr ())))
noncomputable def r10_Check_s2 (s : TSection) (i1 : Int) : Option (Int ⊕ (Int ⊕ Unit)) :=
 (bif (decide (i1 < ((s.Rows.length : Nat) : Int))) then (Option.bind (getI s.Rows i1) (fun e4 => (bif (r10_empty_g e4) then (Option.bind (getI s.Rows i1) (fun e5 => (bif (!(eqV encSp e5 (⟨0, 0⟩ : Sp))) then some (Sum.inr (Sum.inl 19)) else some (Sum.inl (W64 (i1 + 1)))))) else some (Sum.inl (W64 (i1 + 1)))))) else some (Sum.inr (Sum.inr ())))
noncomputable def r10_Check_g (s : TSection) : Option Int :=
 (bif (decide (120 < ((s.Rows.length : Nat) : Int))) then some 4 else (bif (decide (s.Low < (-60))) then some 9 else (bif (decide ((W64 (60 - ((s.Rows.length : Nat) : Int))) < s.Low)) then some 9 else (Option.bind ((loopO (fun q => r10_Check_s1 s q) 0) : Option (Int ⊕ Unit)) (Sum.elim (fun q => some q) (fun _ => (bif (((s.Rows.length : Nat) : Int) == 0) then (bif (s.Low != 0) then some 19 else some 0) else (Option.bind (getI s.Rows 0) (fun e2 => (bif (r10_empty_g e2) then some 19 else (Option.bind (getI s.Rows (W64 (((s.Rows.length : Nat) : Int) - 1))) (fun e3 => (bif (r10_empty_g e3) then some 19 else (Option.bind ((loopO (fun q => r10_Check_s2 s q) 0) : Option (Int ⊕ Unit)) (Sum.elim (fun q => some q) (fun _ => some 0))))))))))))))))
theorem r10_Check_w (s : TSection) (r : Int) (h : r10_Check_g s = some r) : Holds Tryz.prog 145 [(encTSection s)] [] (I r) [] := by
 unfold r10_Check_g at h
 refine holds_fn Tryz.func145 rfl Tryz.ntmps145 rfl rfl rfl (fun lim => ?_)
 refine awp_seq (awp_go hmix (go_run' ttok 2 rfl (go_nil nd (then_norm (awp_seq (awp_go hmix (go_run' ttok 2 rfl ?_)))))))
 refine go_lenT encSp s.Rows ttok rfl rfl rfl rfl rfl rfl ?_
 refine go_run' ttok 1 rfl (go_nil nd (then_norm (awp_seq (awp_seq (awp_go hmix (go_run' ttok 2 rfl (go_nil nd (then_norm ?_))))))))
 refine awp_cond (b := (decide (120 < ((s.Rows.length : Nat) : Int)))) rfl (fun c1 => ?_) (fun c1 => ?_)
 ·replace h := of_bif_t h c1
  refine awp_seq (awp_go hmix (go_run' ttok 1 rfl (go_nil nd (then_norm (awp_ret (then_ret ?_))))))
  have e2 := of_some h
  subst e2
  refine ret_ret ?_
  refine fin0 ttok rfl rfl ?_
  exact (wkP_refl _ rfl)
 ·replace h := of_bif_f h c1
  refine awp_skip (then_norm (awp_seq (awp_seq (awp_go hmix (go_run' ttok 4 rfl ?_)))))
  refine go_gcase rfl rfl rfl (fun g3 => ?_) (fun g3 => ?_)
  ·rw [g3]
   replace h := of_bif_t h g3
   refine go_run' ttok 6 rfl (go_nil nd (then_norm ?_))
   refine awp_cond rfl (fun tt0 => ?_) (fun h => by cases h)
   clear tt0
   refine awp_seq (awp_go hmix (go_run' ttok 1 rfl (go_nil nd (then_norm (awp_ret (then_ret ?_))))))
   have e4 := of_some h
   subst e4
   refine ret_ret ?_
   refine fin0 ttok rfl rfl ?_
   exact (wkP_refl _ rfl)
  ·rw [g3]
   replace h := of_bif_f h g3
   refine go_run' ttok 6 rfl (go_nil nd (then_norm ?_))
   refine awp_cond (b := (decide ((W64 (60 - ((s.Rows.length : Nat) : Int))) < s.Low))) rfl (fun c5 => ?_) (fun c5 => ?_)
   ·replace h := of_bif_t h c5
    refine awp_seq (awp_go hmix (go_run' ttok 1 rfl (go_nil nd (then_norm (awp_ret (then_ret ?_))))))
    have e6 := of_some h
    subst e6
    refine ret_ret ?_
    refine fin0 ttok rfl rfl ?_
    exact (wkP_refl _ rfl)
   ·replace h := of_bif_f h c5
    refine awp_skip (then_norm ?_)
    obtain ⟨y, hx7, h⟩ := of_obind h
    refine awp_seqJ (X := Unit) [1, 3] [1] (fun _ => []) (fun _ => []) (fun w => Sum.inr w = y) rfl rfl ?_ ?_
    ·skip
     refine awp_seq (awp_go hmix (go_run' ttok 1 rfl (go_nil nd (then_norm (awp_block ?_)))))
     refine awp_loopD (X := Int) (Y := (Int ⊕ Unit)) [1, 3] [1] (fun q => [(4, (I q))]) (fun q => []) (fun q => r10_Check_s1 s q) 0 [(1, some 1)] hx7 ⟨rfl, rfl, rfl, rfl, rfl, ⟨wkP_id _ rfl, trivial⟩, trivial⟩ (fun i vR vz hz9 hk10 => ?_)
     change r10_Check_s1 s i = _ at hz9
     unfold r10_Check_s1 at hz9
     refine awp_seq (awp_seq (awp_go hmix (go_run' ttok 3 rfl (go_nil nd (then_norm ?_)))))
     refine awp_cond (b := (decide (i < ((s.Rows.length : Nat) : Int)))) rfl (fun c11 => ?_) (fun c11 => ?_)
     ·replace hz9 := of_bif_t hz9 c11
      refine awp_skip (then_norm (awp_seq (awp_block (awp_seq (awp_go hmix (go_run' ttok 3 rfl ?_))))))
      obtain ⟨e, hv12, hz9⟩ := of_obind hz9
      refine go_indexT encSp s.Rows i e hv12 ttok rfl rfl rfl rfl rfl rfl rfl rfl rfl ?_
      refine go_run' ttok 2 rfl ?_
      refine go_call fn166 (r10_beyond_w e.a _ rfl) rfl rfl rfl rfl rfl rfl rfl ?_
      refine go_run' ttok 1 rfl ?_
      refine go_gcase rfl rfl rfl (fun g13 => ?_) (fun g13 => ?_)
      ·rw [g13]
       replace hz9 := of_bif_t hz9 g13
       refine go_run' ttok 8 rfl (go_nil nd (then_norm ?_))
       refine awp_cond rfl (fun tt0 => ?_) (fun h => by cases h)
       clear tt0
       refine awp_seq (awp_go hmix (go_run' ttok 1 rfl (go_nil nd (then_norm (awp_ret (block_ret (then_ret ?_)))))))
       obtain ⟨t, hn14, hq⟩ := of_mapr' hz9
       subst hq
       have hq : t = _ := hk10
       subst hq
       refine then_ret (block_ret ?_)
       obtain ⟨t1, hn15, hq⟩ := of_mapl' hn14
       subst hq
       have hq := of_inl h
       replace hq := of_some hq
       subst hq
       refine then_ret ?_
       have e16 := of_some hn15
       subst e16
       refine ret_ret ?_
       refine fin0 ttok rfl rfl ?_
       exact (wkP_refl _ rfl)
      ·rw [g13]
       replace hz9 := of_bif_f hz9 g13
       refine go_run' ttok 3 rfl ?_
       obtain ⟨e1, hv17, hz9⟩ := of_obind hz9
       refine go_indexT encSp s.Rows i e1 hv17 ttok rfl rfl rfl rfl rfl rfl rfl rfl rfl ?_
       refine go_run' ttok 2 rfl ?_
       refine go_call fn166 (r10_beyond_w e1.b _ rfl) rfl rfl rfl rfl rfl rfl rfl ?_
       refine go_run' ttok 1 rfl (go_nil nd (then_norm ?_))
       refine awp_cond (b := (r10_beyond_g e1.b)) rfl (fun c18 => ?_) (fun c18 => ?_)
       ·replace hz9 := of_bif_t hz9 c18
        refine awp_seq (awp_go hmix (go_run' ttok 1 rfl (go_nil nd (then_norm (awp_ret (block_ret (then_ret ?_)))))))
        obtain ⟨t2, hn19, hq⟩ := of_mapr' hz9
        subst hq
        have hq : t2 = _ := hk10
        subst hq
        refine then_ret (block_ret ?_)
        obtain ⟨t3, hn20, hq⟩ := of_mapl' hn19
        subst hq
        have hq := of_inl h
        replace hq := of_some hq
        subst hq
        refine then_ret ?_
        have e21 := of_some hn20
        subst e21
        refine ret_ret ?_
        refine fin0 ttok rfl rfl ?_
        exact (wkP_refl _ rfl)
       ·replace hz9 := of_bif_f hz9 c18
        refine awp_skip (block_norm (then_norm (awp_go hmix (go_run' ttok 3 rfl (go_nil nd ?_)))))
        have e22 := of_some hz9
        subst e22
        refine then_norm ⟨rfl, (W64 (i + 1)), [(1, some 1)], ⟨rfl, rfl, rfl, rfl, rfl, ⟨wkP_id _ rfl, trivial⟩, trivial⟩, hk10⟩
     ·replace hz9 := of_bif_f hz9 c11
      refine awp_exit (then_exit ?_)
      obtain ⟨t4, hn23, hq⟩ := of_mapr' hz9
      subst hq
      have hq : t4 = _ := hk10
      subst hq
      refine then_exit (block_here ?_)
      have e24 := of_some hn23
      refine then_norm ⟨rfl, (), [(1, some 1)], ⟨rfl, rfl, rfl, rfl, rfl, trivial, trivial⟩, e24⟩
    ·intro w hw8
     subst hw8
     replace h := of_inr h
     refine awp_seq (awp_seq (awp_go hmix (go_run' ttok 2 rfl (go_nil nd (then_norm ?_)))))
     refine awp_cond (b := (((s.Rows.length : Nat) : Int) == 0)) rfl (fun c25 => ?_) (fun c25 => ?_)
     ·replace h := of_bif_t h c25
      refine awp_seq (awp_seq (awp_go hmix (go_run' ttok 3 rfl (go_nil nd (then_norm ?_)))))
      refine awp_cond (b := (s.Low != 0)) rfl (fun c26 => ?_) (fun c26 => ?_)
      ·replace h := of_bif_t h c26
       refine awp_seq (awp_go hmix (go_run' ttok 1 rfl (go_nil nd (then_norm (awp_ret (then_ret (then_ret ?_)))))))
       have e27 := of_some h
       subst e27
       refine ret_ret ?_
       refine fin0 ttok rfl rfl ?_
       exact (wkP_refl _ rfl)
      ·replace h := of_bif_f h c26
       refine awp_skip (then_norm (awp_seq (awp_go hmix (go_run' ttok 1 rfl (go_nil nd (then_norm (awp_ret (then_ret ?_))))))))
       have e28 := of_some h
       subst e28
       refine ret_ret ?_
       refine fin0 ttok rfl rfl ?_
       exact (wkP_refl _ rfl)
     ·replace h := of_bif_f h c25
      refine awp_skip (then_norm (awp_seq (awp_seq (awp_go hmix (go_run' ttok 2 rfl ?_)))))
      obtain ⟨e2, hv29, h⟩ := of_obind h
      refine go_indexT encSp s.Rows 0 e2 hv29 ttok rfl rfl rfl rfl rfl rfl rfl rfl rfl ?_
      refine go_run' ttok 1 rfl ?_
      refine go_call fn167 (r10_empty_w e2 _ rfl) rfl rfl rfl rfl rfl rfl rfl ?_
      refine go_run' ttok 1 rfl ?_
      refine go_gcase rfl rfl rfl (fun g30 => ?_) (fun g30 => ?_)
      ·rw [g30]
       replace h := of_bif_t h g30
       refine go_run' ttok 8 rfl (go_nil nd (then_norm ?_))
       refine awp_cond rfl (fun tt0 => ?_) (fun h => by cases h)
       clear tt0
       refine awp_seq (awp_go hmix (go_run' ttok 1 rfl (go_nil nd (then_norm (awp_ret (then_ret ?_))))))
       have e31 := of_some h
       subst e31
       refine ret_ret ?_
       refine fin0 ttok rfl rfl ?_
       exact (wkP_refl _ rfl)
      ·rw [g30]
       replace h := of_bif_f h g30
       refine go_run' ttok 4 rfl ?_
       obtain ⟨e3, hv32, h⟩ := of_obind h
       refine go_indexT encSp s.Rows (W64 (((s.Rows.length : Nat) : Int) - 1)) e3 hv32 ttok rfl rfl rfl rfl rfl rfl rfl rfl rfl ?_
       refine go_run' ttok 1 rfl ?_
       refine go_call fn167 (r10_empty_w e3 _ rfl) rfl rfl rfl rfl rfl rfl rfl ?_
       refine go_run' ttok 1 rfl (go_nil nd (then_norm ?_))
       refine awp_cond (b := (r10_empty_g e3)) rfl (fun c33 => ?_) (fun c33 => ?_)
       ·replace h := of_bif_t h c33
        refine awp_seq (awp_go hmix (go_run' ttok 1 rfl (go_nil nd (then_norm (awp_ret (then_ret ?_))))))
        have e34 := of_some h
        subst e34
        refine ret_ret ?_
        refine fin0 ttok rfl rfl ?_
        exact (wkP_refl _ rfl)
       ·replace h := of_bif_f h c33
        refine awp_skip (then_norm ?_)
        obtain ⟨y1, hx35, h⟩ := of_obind h
        refine awp_seqJ (X := Unit) [] [] (fun _ => []) (fun _ => []) (fun w1 => Sum.inr w1 = y1) rfl rfl ?_ ?_
        ·skip
         refine awp_seq (awp_go hmix (go_run' ttok 1 rfl (go_nil nd (then_norm (awp_block ?_)))))
         refine awp_loopD (X := Int) (Y := (Int ⊕ Unit)) [1, 3] [1] (fun q => [(5, (I q))]) (fun q => []) (fun q => r10_Check_s2 s q) 0 [(1, some 1)] hx35 ⟨rfl, rfl, rfl, rfl, rfl, ⟨wkP_id _ rfl, trivial⟩, trivial⟩ (fun i1 vR1 vz1 hz37 hk38 => ?_)
         change r10_Check_s2 s i1 = _ at hz37
         unfold r10_Check_s2 at hz37
         refine awp_seq (awp_seq (awp_go hmix (go_run' ttok 3 rfl (go_nil nd (then_norm ?_)))))
         refine awp_cond (b := (decide (i1 < ((s.Rows.length : Nat) : Int)))) rfl (fun c39 => ?_) (fun c39 => ?_)
         ·replace hz37 := of_bif_t hz37 c39
          refine awp_skip (then_norm (awp_seq (awp_block (awp_seq (awp_go hmix (go_run' ttok 3 rfl ?_))))))
          obtain ⟨e4, hv40, hz37⟩ := of_obind hz37
          refine go_indexT encSp s.Rows i1 e4 hv40 ttok rfl rfl rfl rfl rfl rfl rfl rfl rfl ?_
          refine go_run' ttok 1 rfl ?_
          refine go_call fn167 (r10_empty_w e4 _ rfl) rfl rfl rfl rfl rfl rfl rfl ?_
          refine go_run' ttok 1 rfl ?_
          refine go_gcase rfl rfl rfl (fun g41 => ?_) (fun g41 => ?_)
          ·rw [g41]
           replace hz37 := of_bif_t hz37 g41
           refine go_run' ttok 3 rfl ?_
           obtain ⟨e5, hv42, hz37⟩ := of_obind hz37
           refine go_indexT encSp s.Rows i1 e5 hv42 ttok rfl rfl rfl rfl rfl rfl rfl rfl rfl ?_
           refine go_run' ttok 2 rfl ?_
           refine go_step rfl (as_neAgg shSp rfl eqT23_1 eqT23_2 (by decide) rfl rfl rfl rfl rfl) rfl rfl rfl ?_
           refine go_run' ttok 1 rfl (go_nil nd (then_norm ?_))
           refine awp_cond (b := (!(eqV encSp e5 (⟨0, 0⟩ : Sp)))) rfl (fun c43 => ?_) (fun c43 => ?_)
           ·replace hz37 := of_bif_t hz37 c43
            refine awp_seq (awp_go hmix (go_run' ttok 1 rfl (go_nil nd (then_norm (awp_ret (block_ret (then_ret ?_)))))))
            obtain ⟨t5, hn44, hq⟩ := of_mapr' hz37
            subst hq
            have hq : t5 = _ := hk38
            subst hq
            refine then_ret (block_ret ?_)
            obtain ⟨t6, hn45, hq⟩ := of_mapl' hn44
            subst hq
            have hq := of_inl h
            replace hq := of_some hq
            subst hq
            refine then_ret ?_
            have e46 := of_some hn45
            subst e46
            refine ret_ret ?_
            refine fin0 ttok rfl rfl ?_
            exact (wkP_refl _ rfl)
           ·replace hz37 := of_bif_f hz37 c43
            refine awp_skip (block_norm (then_norm (awp_go hmix (go_run' ttok 3 rfl (go_nil nd ?_)))))
            have e47 := of_some hz37
            subst e47
            refine then_norm ⟨rfl, (W64 (i1 + 1)), [(1, some 1)], ⟨rfl, rfl, rfl, rfl, rfl, ⟨wkP_id _ rfl, trivial⟩, trivial⟩, hk38⟩
          ·rw [g41]
           replace hz37 := of_bif_f hz37 g41
           refine go_run' ttok 8 rfl (go_nil nd (then_norm ?_))
           refine awp_cond rfl (fun h => by cases h) (fun tt0 => ?_)
           clear tt0
           refine awp_skip (block_norm (then_norm (awp_go hmix (go_run' ttok 3 rfl (go_nil nd ?_)))))
           have e48 := of_some hz37
           subst e48
           refine then_norm ⟨rfl, (W64 (i1 + 1)), [(1, some 1)], ⟨rfl, rfl, rfl, rfl, rfl, ⟨wkP_id _ rfl, trivial⟩, trivial⟩, hk38⟩
         ·replace hz37 := of_bif_f hz37 c39
          refine awp_exit (then_exit ?_)
          obtain ⟨t7, hn49, hq⟩ := of_mapr' hz37
          subst hq
          have hq : t7 = _ := hk38
          subst hq
          refine then_exit (block_here ?_)
          have e50 := of_some hn49
          refine then_norm ⟨rfl, (), [], ⟨rfl, rfl, rfl, rfl, rfl, trivial, trivial⟩, e50⟩
        ·intro w1 hw36
         subst hw36
         replace h := of_inr h
         refine awp_seq (awp_go hmix (go_run' ttok 1 rfl (go_nil nd (then_norm (awp_ret ?_)))))
         have e51 := of_some h
         subst e51
         refine ret_ret ?_
         refine fin0 ttok rfl rfl ?_
         exact (wkP_refl _ rfl)
noncomputable def r11_Check_s1 (l : (List TSlice)) (vsum : Int) (i : Int) : Option ((Int × Int) ⊕ (Int ⊕ Unit)) :=
 (bif (decide (i < ((l.length : Nat) : Int))) then (Option.bind (getI l i) (fun e => (Option.bind (r10_Check_g e.Sec) (fun cv => (bif (cv != 0) then some (Sum.inr (Sum.inl cv)) else (Option.bind (getI l i) (fun e1 => (bif (((e1.Sec.Rows.length : Nat) : Int) == 0) then some (Sum.inr (Sum.inl 18)) else (Option.bind (getI l i) (fun e2 => (bif (decide (e2.Len < 1)) then some (Sum.inr (Sum.inl 9)) else (Option.bind (getI l i) (fun e3 => (bif (decide ((W64 (20000 - vsum)) < e3.Len)) then some (Sum.inr (Sum.inl 9)) else (Option.bind (getI l i) (fun e4 => some (Sum.inl ((W64 (vsum + e4.Len)), (W64 (i + 1)))))))))))))))))))) else some (Sum.inr (Sum.inr ())))
noncomputable def r11_Check_g (l : (List TSlice)) : Option Int :=
 (bif (((l.length : Nat) : Int) == 0) then some 3 else (bif (decide (24 < ((l.length : Nat) : Int))) then some 4 else (Option.bind ((loopO (fun q => r11_Check_s1 l q.1 q.2) (0, 0)) : Option (Int ⊕ Unit)) (Sum.elim (fun q => some q) (fun _ => some 0)))))
theorem r11_Check_w (l : (List TSlice)) (r : Int) (h : r11_Check_g l = some r) : Holds Tryz.prog 93 [((encL encTSlice) l)] [] (I r) [] := by
 unfold r11_Check_g at h
 refine holds_fn Tryz.func93 rfl Tryz.ntmps93 rfl rfl rfl (fun lim => ?_)
 refine awp_seq (awp_go hmix (go_run' ttok 1 rfl (go_nil nd (then_norm (awp_seq (awp_seq (awp_go hmix (go_run' ttok 1 rfl ?_))))))))
 refine go_lenT encTSlice l ttok rfl rfl rfl rfl rfl rfl ?_
 refine go_run' ttok 1 rfl (go_nil nd (then_norm ?_))
 refine awp_cond (b := (((l.length : Nat) : Int) == 0)) rfl (fun c1 => ?_) (fun c1 => ?_)
 ·replace h := of_bif_t h c1
  refine awp_seq (awp_go hmix (go_run' ttok 1 rfl (go_nil nd (then_norm (awp_ret (then_ret ?_))))))
  have e2 := of_some h
  subst e2
  refine ret_ret ?_
  refine fin0 ttok rfl rfl ?_
  exact (wkP_refl _ rfl)
 ·replace h := of_bif_f h c1
  refine awp_skip (then_norm (awp_seq (awp_seq (awp_go hmix (go_run' ttok 1 rfl ?_)))))
  refine go_lenT encTSlice l ttok rfl rfl rfl rfl rfl rfl ?_
  refine go_run' ttok 1 rfl (go_nil nd (then_norm ?_))
  refine awp_cond (b := (decide (24 < ((l.length : Nat) : Int)))) rfl (fun c3 => ?_) (fun c3 => ?_)
  ·replace h := of_bif_t h c3
   refine awp_seq (awp_go hmix (go_run' ttok 1 rfl (go_nil nd (then_norm (awp_ret (then_ret ?_))))))
   have e4 := of_some h
   subst e4
   refine ret_ret ?_
   refine fin0 ttok rfl rfl ?_
   exact (wkP_refl _ rfl)
  ·replace h := of_bif_f h c3
   refine awp_skip (then_norm (awp_seq (awp_go hmix (go_run' ttok 1 rfl (go_nil nd (then_norm ?_))))))
   obtain ⟨y, hx5, h⟩ := of_obind h
   refine awp_seqJ (X := Unit) [] [] (fun _ => []) (fun _ => []) (fun w => Sum.inr w = y) rfl rfl ?_ ?_
   ·skip
    refine awp_seq (awp_go hmix (go_run' ttok 1 rfl (go_nil nd (then_norm (awp_block ?_)))))
    refine awp_loopD (X := (Int × Int)) (Y := (Int ⊕ Unit)) [0] [] (fun q => [(3, (I q.1)), (4, (I q.2))]) (fun q => []) (fun q => r11_Check_s1 l q.1 q.2) (0, 0) [] hx5 ⟨rfl, rfl, rfl, rfl, rfl, ⟨wkP_id _ rfl, wkP_id _ rfl, trivial⟩, trivial⟩ (fun x vR vz hz7 hk8 => ?_)
    obtain ⟨vsum, i⟩ := x
    change r11_Check_s1 l vsum i = _ at hz7
    unfold r11_Check_s1 at hz7
    refine awp_seq (awp_seq (awp_go hmix (go_run' ttok 2 rfl ?_)))
    refine go_lenT encTSlice l ttok rfl rfl rfl rfl rfl rfl ?_
    refine go_run' ttok 1 rfl (go_nil nd (then_norm ?_))
    refine awp_cond (b := (decide (i < ((l.length : Nat) : Int)))) rfl (fun c9 => ?_) (fun c9 => ?_)
    ·replace hz7 := of_bif_t hz7 c9
     refine awp_skip (then_norm (awp_seq (awp_block (awp_seq (awp_seq (awp_go hmix (go_run' ttok 2 rfl ?_)))))))
     obtain ⟨e, hv10, hz7⟩ := of_obind hz7
     refine go_indexT encTSlice l i e hv10 ttok rfl rfl rfl rfl rfl rfl rfl rfl rfl ?_
     refine go_run' ttok 2 rfl ?_
     obtain ⟨cv, hv11, hz7⟩ := of_obind hz7
     refine go_call fn145 (r10_Check_w e.Sec cv hv11) rfl rfl rfl rfl rfl rfl rfl ?_
     refine go_run' ttok 1 rfl (go_nil nd (then_norm (awp_seq (awp_go hmix (go_run' ttok 2 rfl (go_nil nd (then_norm ?_)))))))
     refine awp_cond (b := (cv != 0)) rfl (fun c12 => ?_) (fun c12 => ?_)
     ·replace hz7 := of_bif_t hz7 c12
      refine awp_seq (awp_go hmix (go_run' ttok 2 rfl (go_nil nd (then_norm (awp_ret (then_ret (block_ret (then_ret ?_))))))))
      obtain ⟨t, hn13, hq⟩ := of_mapr' hz7
      subst hq
      have hq : t = _ := hk8
      subst hq
      refine then_ret (block_ret ?_)
      obtain ⟨t1, hn14, hq⟩ := of_mapl' hn13
      subst hq
      have hq := of_inl h
      replace hq := of_some hq
      subst hq
      refine then_ret ?_
      have e15 := of_some hn14
      subst e15
      refine ret_ret ?_
      refine fin0 ttok rfl rfl ?_
      exact (wkP_refl _ rfl)
     ·replace hz7 := of_bif_f hz7 c12
      refine awp_skip (then_norm (awp_seq (awp_seq (awp_go hmix (go_run' ttok 2 rfl ?_)))))
      obtain ⟨e1, hv16, hz7⟩ := of_obind hz7
      refine go_indexT encTSlice l i e1 hv16 ttok rfl rfl rfl rfl rfl rfl rfl rfl rfl ?_
      refine go_run' ttok 3 rfl ?_
      refine go_lenT encSp e1.Sec.Rows ttok rfl rfl rfl rfl rfl rfl ?_
      refine go_run' ttok 1 rfl (go_nil nd (then_norm ?_))
      refine awp_cond (b := (((e1.Sec.Rows.length : Nat) : Int) == 0)) rfl (fun c17 => ?_) (fun c17 => ?_)
      ·replace hz7 := of_bif_t hz7 c17
       refine awp_seq (awp_go hmix (go_run' ttok 1 rfl (go_nil nd (then_norm (awp_ret (then_ret (block_ret (then_ret ?_))))))))
       obtain ⟨t2, hn18, hq⟩ := of_mapr' hz7
       subst hq
       have hq : t2 = _ := hk8
       subst hq
       refine then_ret (block_ret ?_)
       obtain ⟨t3, hn19, hq⟩ := of_mapl' hn18
       subst hq
       have hq := of_inl h
       replace hq := of_some hq
       subst hq
       refine then_ret ?_
       have e20 := of_some hn19
       subst e20
       refine ret_ret ?_
       refine fin0 ttok rfl rfl ?_
       exact (wkP_refl _ rfl)
      ·replace hz7 := of_bif_f hz7 c17
       refine awp_skip (then_norm (awp_seq (awp_seq (awp_go hmix (go_run' ttok 2 rfl ?_)))))
       obtain ⟨e2, hv21, hz7⟩ := of_obind hz7
       refine go_indexT encTSlice l i e2 hv21 ttok rfl rfl rfl rfl rfl rfl rfl rfl rfl ?_
       refine go_run' ttok 4 rfl ?_
       refine go_gcase rfl rfl rfl (fun g22 => ?_) (fun g22 => ?_)
       ·rw [g22]
        replace hz7 := of_bif_t hz7 g22
        refine go_run' ttok 9 rfl (go_nil nd (then_norm ?_))
        refine awp_cond rfl (fun tt0 => ?_) (fun h => by cases h)
        clear tt0
        refine awp_seq (awp_go hmix (go_run' ttok 1 rfl (go_nil nd (then_norm (awp_ret (then_ret (block_ret (then_ret ?_))))))))
        obtain ⟨t4, hn23, hq⟩ := of_mapr' hz7
        subst hq
        have hq : t4 = _ := hk8
        subst hq
        refine then_ret (block_ret ?_)
        obtain ⟨t5, hn24, hq⟩ := of_mapl' hn23
        subst hq
        have hq := of_inl h
        replace hq := of_some hq
        subst hq
        refine then_ret ?_
        have e25 := of_some hn24
        subst e25
        refine ret_ret ?_
        refine fin0 ttok rfl rfl ?_
        exact (wkP_refl _ rfl)
       ·rw [g22]
        replace hz7 := of_bif_f hz7 g22
        refine go_run' ttok 2 rfl ?_
        obtain ⟨e3, hv26, hz7⟩ := of_obind hz7
        refine go_indexT encTSlice l i e3 hv26 ttok rfl rfl rfl rfl rfl rfl rfl rfl rfl ?_
        refine go_run' ttok 6 rfl (go_nil nd (then_norm ?_))
        refine awp_cond (b := (decide ((W64 (20000 - vsum)) < e3.Len))) rfl (fun c27 => ?_) (fun c27 => ?_)
        ·replace hz7 := of_bif_t hz7 c27
         refine awp_seq (awp_go hmix (go_run' ttok 1 rfl (go_nil nd (then_norm (awp_ret (then_ret (block_ret (then_ret ?_))))))))
         obtain ⟨t6, hn28, hq⟩ := of_mapr' hz7
         subst hq
         have hq : t6 = _ := hk8
         subst hq
         refine then_ret (block_ret ?_)
         obtain ⟨t7, hn29, hq⟩ := of_mapl' hn28
         subst hq
         have hq := of_inl h
         replace hq := of_some hq
         subst hq
         refine then_ret ?_
         have e30 := of_some hn29
         subst e30
         refine ret_ret ?_
         refine fin0 ttok rfl rfl ?_
         exact (wkP_refl _ rfl)
        ·replace hz7 := of_bif_f hz7 c27
         refine awp_skip (then_norm (awp_go hmix (go_run' ttok 3 rfl ?_)))
         obtain ⟨e4, hv31, hz7⟩ := of_obind hz7
         refine go_indexT encTSlice l i e4 hv31 ttok rfl rfl rfl rfl rfl rfl rfl rfl rfl ?_
         refine go_run' ttok 4 rfl (go_nil nd (block_norm (then_norm (awp_go hmix (go_run' ttok 3 rfl (go_nil nd ?_))))))
         have e32 := of_some hz7
         subst e32
         refine then_norm ⟨rfl, ((W64 (vsum + e4.Len)), (W64 (i + 1))), [], ⟨rfl, rfl, rfl, rfl, rfl, ⟨wkP_id _ rfl, wkP_id _ rfl, trivial⟩, trivial⟩, hk8⟩
    ·replace hz7 := of_bif_f hz7 c9
     refine awp_exit (then_exit ?_)
     obtain ⟨t8, hn33, hq⟩ := of_mapr' hz7
     subst hq
     have hq : t8 = _ := hk8
     subst hq
     refine then_exit (block_here ?_)
     have e34 := of_some hn33
     refine then_norm ⟨rfl, (), [], ⟨rfl, rfl, rfl, rfl, rfl, trivial, trivial⟩, e34⟩
   ·intro w hw6
    subst hw6
    replace h := of_inr h
    refine awp_seq (awp_go hmix (go_run' ttok 1 rfl (go_nil nd (then_norm (awp_ret ?_)))))
    have e35 := of_some h
    subst e35
    refine ret_ret ?_
    refine fin0 ttok rfl rfl ?_
    exact (wkP_refl _ rfl)
noncomputable def r11_part_g (vz : Sp) (vat : Int) (length : Int) : Int :=
 (bif (decide ((min vz.b (W64 (vat + length))) ≤ (max vz.a vat))) then 0 else (W64 ((min vz.b (W64 (vat + length))) - (max vz.a vat))))
theorem r11_part_w (vz : Sp) (vat : Int) (length : Int) (r : Int) (h : r11_part_g vz vat length = r) : Holds Tryz.prog 94 [(encSp vz), (I vat), (I length)] [] (I r) [] := by
 unfold r11_part_g at h
 refine holds_fn Tryz.func94 rfl Tryz.ntmps94 rfl rfl rfl (fun lim => ?_)
 refine awp_seq (awp_go hmix (go_run' ttok 2 rfl (go_nil nd (then_norm (awp_seq (awp_go hmix (go_run' ttok 12 rfl ?_)))))))
 refine go_nil (fun _ => by kernel_rfl) ?_
 refine then_norm (awp_seq (awp_seq (awp_go hmix (go_run' ttok 3 rfl (go_nil nd (then_norm ?_))))))
 refine awp_cond (b := (decide ((min vz.b (W64 (vat + length))) ≤ (max vz.a vat)))) rfl (fun c1 => ?_) (fun c1 => ?_)
 ·replace h := of_bif_t h c1
  refine awp_seq (awp_go hmix (go_run' ttok 1 rfl (go_nil nd (then_norm (awp_ret (then_ret ?_))))))
  have e2 := h
  subst e2
  refine ret_ret ?_
  refine fin0 ttok rfl rfl ?_
  exact (wkP_refl _ rfl)
 ·replace h := of_bif_f h c1
  refine awp_skip (then_norm (awp_seq (awp_go hmix (go_run' ttok 4 rfl (go_nil nd (then_norm (awp_ret ?_)))))))
  have e3 := h
  subst e3
  refine ret_ret ?_
  refine fin0 ttok rfl rfl ?_
  exact (wkP_refl _ rfl)
noncomputable def r10_Valid_g (s : TSection) : Option TSection :=
 (Option.bind (r10_Check_g s) (fun cv => (bif (cv != 0) then some (⟨0, []⟩ : TSection) else some s)))
theorem r10_Valid_w (s : TSection) (r : TSection) (h : r10_Valid_g s = some r) : Holds Tryz.prog 146 [(encTSection s)] [] (encTSection r) [] := by
 unfold r10_Valid_g at h
 refine holds_fn Tryz.func146 rfl Tryz.ntmps146 rfl rfl rfl (fun lim => ?_)
 refine awp_seq (awp_go hmix (go_run' ttok 2 rfl (go_nil nd (then_norm (awp_seq (awp_seq (awp_go hmix (go_run' ttok 1 rfl ?_))))))))
 obtain ⟨cv, hv1, h⟩ := of_obind h
 refine go_call fn145 (r10_Check_w s cv hv1) rfl rfl rfl rfl rfl rfl rfl ?_
 refine go_run' ttok 1 rfl (go_nil nd (then_norm ?_))
 refine awp_cond (b := (cv != 0)) rfl (fun c2 => ?_) (fun c2 => ?_)
 ·replace h := of_bif_t h c2
  refine awp_seq (awp_go hmix (go_run' ttok 2 rfl (go_nil nd (then_norm (awp_ret (then_ret ?_))))))
  have e3 := of_some h
  subst e3
  refine ret_ret ?_
  refine fin0 ttok rfl rfl ?_
  exact ⟨(wkP_refl _ rfl), wkP_nilm, trivial⟩
 ·replace h := of_bif_f h c2
  refine awp_skip (then_norm (awp_seq (awp_go hmix (go_run' ttok 2 rfl (go_nil nd (then_norm (awp_ret ?_)))))))
  have e4 := of_some h
  subst e4
  refine ret_ret ?_
  refine fin0 ttok rfl rfl ?_
  exact (wkP_refl _ rfl)
noncomputable def r10_common_g (a : Sp) (b : Sp) : Int :=
 (bif (r10_empty_g b) then 0 else (bif (decide ((min a.b b.b) ≤ (max a.a b.a))) then 0 else (W64 ((min a.b b.b) - (max a.a b.a)))))
theorem r10_common_w (a : Sp) (b : Sp) (r : Int) (h : r10_common_g a b = r) : Holds Tryz.prog 147 [(encSp a), (encSp b)] [] (I r) [] := by
 unfold r10_common_g at h
 refine holds_fn Tryz.func147 rfl Tryz.ntmps147 rfl rfl rfl (fun lim => ?_)
 refine awp_seq (awp_go hmix (go_run' ttok 3 rfl (go_nil nd (then_norm (awp_seq (awp_go hmix (go_run' ttok 12 rfl ?_)))))))
 refine go_nil (fun _ => by kernel_rfl) ?_
 refine then_norm (awp_seq (awp_seq (awp_go hmix (go_run' ttok 1 rfl ?_))))
 refine go_call fn167 (r10_empty_w b _ rfl) rfl rfl rfl rfl rfl rfl rfl ?_
 refine go_run' ttok 1 rfl ?_
 refine go_gcase rfl rfl rfl (fun g1 => ?_) (fun g1 => ?_)
 ·rw [g1]
  replace h := of_bif_t h g1
  refine go_run' ttok 4 rfl (go_nil nd (then_norm ?_))
  refine awp_cond rfl (fun tt0 => ?_) (fun h => by cases h)
  clear tt0
  refine awp_seq (awp_go hmix (go_run' ttok 1 rfl (go_nil nd (then_norm (awp_ret (then_ret ?_))))))
  have e2 := h
  subst e2
  refine ret_ret ?_
  refine fin0 ttok rfl rfl ?_
  exact (wkP_refl _ rfl)
 ·rw [g1]
  replace h := of_bif_f h g1
  refine go_run' ttok 4 rfl (go_nil nd (then_norm ?_))
  refine awp_cond (b := (decide ((min a.b b.b) ≤ (max a.a b.a)))) rfl (fun c3 => ?_) (fun c3 => ?_)
  ·replace h := of_bif_t h c3
   refine awp_seq (awp_go hmix (go_run' ttok 1 rfl (go_nil nd (then_norm (awp_ret (then_ret ?_))))))
   have e4 := h
   subst e4
   refine ret_ret ?_
   refine fin0 ttok rfl rfl ?_
   exact (wkP_refl _ rfl)
  ·replace h := of_bif_f h c3
   refine awp_skip (then_norm (awp_seq (awp_go hmix (go_run' ttok 4 rfl (go_nil nd (then_norm (awp_ret ?_)))))))
   have e5 := h
   subst e5
   refine ret_ret ?_
   refine fin0 ttok rfl rfl ?_
   exact (wkP_refl _ rfl)
noncomputable def r10_Heights_g (vr : Int) : Sp :=
 (⟨(W64 (10 * vr)), (W64 (10 * (W64 (vr + 1))))⟩ : Sp)
theorem r10_Heights_w (vr : Int) (r : Sp) (h : r10_Heights_g vr = r) : Holds Tryz.prog 148 [(I vr)] [] (encSp r) [] := by
 unfold r10_Heights_g at h
 refine holds_fn Tryz.func148 rfl Tryz.ntmps148 rfl rfl rfl (fun lim => ?_)
 refine awp_seq (awp_go hmix (go_run' ttok 1 rfl (go_nil nd (then_norm (awp_seq (awp_go hmix (go_run' ttok 7 rfl (go_nil nd (then_norm (awp_ret ?_))))))))))
 have e1 := h
 subst e1
 refine ret_ret ?_
 refine fin0 ttok rfl rfl ?_
 exact (wkP_refl _ rfl)
noncomputable def r10_Within_s1 (vr : TRect) (vv : TSection) (n1 : Int) (i : Int) : Option ((Int × Int) ⊕ Int) :=
 (bif (decide (i < ((vv.Rows.length : Nat) : Int))) then (Option.bind (getI vv.Rows i) (fun e => (letB (r10_Heights_g (W64 (vv.Low + i))) (fun hv => some (Sum.inl ((W64 (n1 + (W64 ((r10_common_g e vr.X) * (r10_common_g hv vr.Y))))), (W64 (i + 1)))))))) else some (Sum.inr n1))
noncomputable def r10_Within_g (s : TSection) (vr : TRect) : Option Int :=
 (Option.bind (r10_Valid_g s) (fun vv => (Option.bind ((loopO (fun q => r10_Within_s1 vr vv q.1 q.2) (0, 0)) : Option Int) (fun n => some n))))
theorem r10_Within_w (s : TSection) (vr : TRect) (r : Int) (h : r10_Within_g s vr = some r) : Holds Tryz.prog 95 [(encTSection s), (encTRect vr)] [] (I r) [] := by
 unfold r10_Within_g at h
 refine holds_fn Tryz.func95 rfl Tryz.ntmps95 rfl rfl rfl (fun lim => ?_)
 refine awp_seq (awp_go hmix (go_run' ttok 3 rfl (go_nil nd (then_norm (awp_seq (awp_go hmix (go_run' ttok 1 rfl (go_nil nd (then_norm (awp_seq (awp_go hmix (go_run' ttok 1 rfl ?_))))))))))))
 obtain ⟨vv, hv1, h⟩ := of_obind h
 refine go_call fn146 (r10_Valid_w s vv hv1) rfl rfl rfl rfl rfl rfl rfl ?_
 refine go_run' ttok 1 rfl (go_nil nd (then_norm ?_))
 obtain ⟨y, hx2, h⟩ := of_obind h
 refine awp_seqJ (X := Int) [] [] (fun w => [(5, (I w))]) (fun w => []) (fun w => w = y) rfl rfl ?_ ?_
 ·skip
  refine awp_seq (awp_go hmix (go_run' ttok 1 rfl (go_nil nd (then_norm (awp_block ?_)))))
  refine awp_loopD (X := (Int × Int)) (Y := Int) [2, 3] [2, 3] (fun q => [(5, (I q.1)), (6, (I q.2))]) (fun q => []) (fun q => r10_Within_s1 vr vv q.1 q.2) (0, 0) [(2, some 2), (3, some 3)] hx2 ⟨rfl, rfl, rfl, rfl, rfl, ⟨wkP_id _ rfl, wkP_id _ rfl, trivial⟩, trivial⟩ (fun x vR vz hz4 hk5 => ?_)
  obtain ⟨n1, i⟩ := x
  change r10_Within_s1 vr vv n1 i = _ at hz4
  unfold r10_Within_s1 at hz4
  refine awp_seq (awp_seq (awp_go hmix (go_run' ttok 3 rfl ?_)))
  refine go_lenT encSp vv.Rows ttok rfl rfl rfl rfl rfl rfl ?_
  refine go_run' ttok 1 rfl (go_nil nd (then_norm ?_))
  refine awp_cond (b := (decide (i < ((vv.Rows.length : Nat) : Int)))) rfl (fun c6 => ?_) (fun c6 => ?_)
  ·replace hz4 := of_bif_t hz4 c6
   refine awp_skip (then_norm (awp_seq (awp_block (awp_go hmix (go_run' ttok 4 rfl ?_)))))
   obtain ⟨e, hv7, hz4⟩ := of_obind hz4
   refine go_indexT encSp vv.Rows i e hv7 ttok rfl rfl rfl rfl rfl rfl rfl rfl rfl ?_
   refine go_run' ttok 3 rfl ?_
   refine go_call fn147 (r10_common_w e vr.X _ rfl) rfl rfl rfl rfl rfl rfl rfl ?_
   refine go_run' ttok 4 rfl ?_
   obtain ⟨hv, hv8, hz4⟩ := of_let hz4
   refine go_call fn148 (r10_Heights_w (W64 (vv.Low + i)) hv hv8) rfl rfl rfl rfl rfl rfl rfl ?_
   refine go_run' ttok 2 rfl ?_
   refine go_call fn147 (r10_common_w hv vr.Y _ rfl) rfl rfl rfl rfl rfl rfl rfl ?_
   refine go_run' ttok 3 rfl ?_
   refine go_nil (fun _ => by kernel_rfl) ?_
   refine block_norm (then_norm (awp_go hmix (go_run' ttok 3 rfl (go_nil nd ?_))))
   have e9 := of_some hz4
   subst e9
   refine then_norm ⟨rfl, ((W64 (n1 + (W64 ((r10_common_g e vr.X) * (r10_common_g hv vr.Y))))), (W64 (i + 1))), [(2, some 2), (3, some 3)], ⟨rfl, rfl, rfl, rfl, rfl, ⟨wkP_id _ rfl, wkP_id _ rfl, trivial⟩, trivial⟩, hk5⟩
  ·replace hz4 := of_bif_f hz4 c6
   refine awp_exit (then_exit ?_)
   obtain ⟨t, hn10, hq⟩ := of_mapr' hz4
   subst hq
   have hq : t = _ := hk5
   subst hq
   refine then_exit (block_here ?_)
   have e11 := of_some hn10
   refine then_norm ⟨rfl, n1, [], ⟨rfl, rfl, rfl, rfl, rfl, ⟨wkP_id _ rfl, trivial⟩, trivial⟩, e11⟩
 ·intro n hw3
  subst hw3
  refine awp_seq (awp_go hmix (go_run' ttok 2 rfl (go_nil nd (then_norm (awp_ret ?_)))))
  have e12 := of_some h
  subst e12
  refine ret_ret ?_
  refine fin0 ttok rfl rfl ?_
  exact (wkP_refl _ rfl)
noncomputable def r11_Within_s1 (l : (List TSlice)) (b : Bx) (n1 : Int) (vat : Int) (i : Int) : Option ((Int × Int × Int) ⊕ Int) :=
 (bif (decide (i < ((l.length : Nat) : Int))) then (Option.bind (getI l i) (fun e => (bif (decide (0 < (r11_part_g (⟨(max b.z.a 0), (min b.z.b 20000)⟩ : Sp) vat e.Len))) then (Option.bind (getI l i) (fun e1 => (Option.bind (r10_Within_g e1.Sec (⟨b.x, b.y⟩ : TRect)) (fun wv => (Option.bind (getI l i) (fun e2 => some (Sum.inl ((W64 (n1 + (W64 ((r11_part_g (⟨(max b.z.a 0), (min b.z.b 20000)⟩ : Sp) vat e.Len) * wv)))), (W64 (vat + e2.Len)), (W64 (i + 1)))))))))) else (Option.bind (getI l i) (fun e3 => some (Sum.inl (n1, (W64 (vat + e3.Len)), (W64 (i + 1))))))))) else some (Sum.inr n1))
noncomputable def r11_Within_g (l : (List TSlice)) (b : Bx) : Option Int :=
 (Option.bind (r11_Check_g l) (fun cv => (bif (cv != 0) then some 0 else (bif (decide (b.x.b ≤ b.x.a)) then some 0 else (bif (decide (b.y.b ≤ b.y.a)) then some 0 else (bif (decide (b.z.b ≤ b.z.a)) then some 0 else (Option.bind ((loopO (fun q => r11_Within_s1 l b q.1 q.2.1 q.2.2) (0, 0, 0)) : Option Int) (fun n => some n))))))))
theorem r11_Within_w (l : (List TSlice)) (b : Bx) (r : Int) (h : r11_Within_g l b = some r) : Holds Tryz.prog 47 [((encL encTSlice) l), (encBx b)] [] (I r) [] := by
 unfold r11_Within_g at h
 refine holds_fn Tryz.func47 rfl Tryz.ntmps47 rfl rfl rfl (fun lim => ?_)
 refine awp_seq (awp_go hmix (go_run' ttok 2 rfl (go_nil nd (then_norm (awp_seq (awp_seq (awp_go hmix (go_run' ttok 1 rfl ?_))))))))
 obtain ⟨cv, hv1, h⟩ := of_obind h
 refine go_call fn93 (r11_Check_w l cv hv1) rfl rfl rfl rfl rfl rfl rfl ?_
 refine go_run' ttok 2 rfl ?_
 refine go_gcase rfl rfl rfl (fun g2 => ?_) (fun g2 => ?_)
 ·rw [g2]
  replace h := of_bif_t h g2
  refine go_run' ttok 26 rfl (go_nil nd (then_norm ?_))
  refine awp_cond rfl (fun tt0 => ?_) (fun h => by cases h)
  clear tt0
  refine awp_seq (awp_go hmix (go_run' ttok 1 rfl (go_nil nd (then_norm (awp_ret (then_ret ?_))))))
  have e3 := of_some h
  subst e3
  refine ret_ret ?_
  refine fin0 ttok rfl rfl ?_
  exact (wkP_refl _ rfl)
 ·rw [g2]
  replace h := of_bif_f h g2
  refine go_run' ttok 9 rfl ?_
  refine go_gcase rfl rfl rfl (fun g4 => ?_) (fun g4 => ?_)
  ·rw [g4]
   replace h := of_bif_t h g4
   refine go_run' ttok 17 rfl (go_nil nd (then_norm ?_))
   refine awp_cond rfl (fun tt0 => ?_) (fun h => by cases h)
   clear tt0
   refine awp_seq (awp_go hmix (go_run' ttok 1 rfl (go_nil nd (then_norm (awp_ret (then_ret ?_))))))
   have e5 := of_some h
   subst e5
   refine ret_ret ?_
   refine fin0 ttok rfl rfl ?_
   exact (wkP_refl _ rfl)
  ·rw [g4]
   replace h := of_bif_f h g4
   refine go_run' ttok 9 rfl ?_
   refine go_gcase rfl rfl rfl (fun g6 => ?_) (fun g6 => ?_)
   ·rw [g6]
    replace h := of_bif_t h g6
    refine go_run' ttok 8 rfl (go_nil nd (then_norm ?_))
    refine awp_cond rfl (fun tt0 => ?_) (fun h => by cases h)
    clear tt0
    refine awp_seq (awp_go hmix (go_run' ttok 1 rfl (go_nil nd (then_norm (awp_ret (then_ret ?_))))))
    have e7 := of_some h
    subst e7
    refine ret_ret ?_
    refine fin0 ttok rfl rfl ?_
    exact (wkP_refl _ rfl)
   ·rw [g6]
    replace h := of_bif_f h g6
    refine go_run' ttok 8 rfl (go_nil nd (then_norm ?_))
    refine awp_cond (b := (decide (b.z.b ≤ b.z.a))) rfl (fun c8 => ?_) (fun c8 => ?_)
    ·replace h := of_bif_t h c8
     refine awp_seq (awp_go hmix (go_run' ttok 1 rfl (go_nil nd (then_norm (awp_ret (then_ret ?_))))))
     have e9 := of_some h
     subst e9
     refine ret_ret ?_
     refine fin0 ttok rfl rfl ?_
     exact (wkP_refl _ rfl)
    ·replace h := of_bif_f h c8
     refine awp_skip (then_norm (awp_seq (awp_go hmix (go_run' ttok 2 rfl (go_nil nd (then_norm ?_))))))
     obtain ⟨y, hx10, h⟩ := of_obind h
     refine awp_seqJ (X := Int) [] [] (fun w => [(5, (I w))]) (fun w => []) (fun w => w = y) rfl rfl ?_ ?_
     ·skip
      refine awp_seq (awp_go hmix (go_run' ttok 1 rfl (go_nil nd (then_norm (awp_block ?_)))))
      refine awp_loopD (X := (Int × Int × Int)) (Y := Int) [0, 3] [3] (fun q => [(5, (I q.1)), (6, (I q.2.1)), (7, (I q.2.2))]) (fun q => []) (fun q => r11_Within_s1 l b q.1 q.2.1 q.2.2) (0, 0, 0) [(3, some 3)] hx10 ⟨rfl, rfl, rfl, rfl, rfl, ⟨wkP_id _ rfl, wkP_id _ rfl, wkP_id _ rfl, trivial⟩, trivial⟩ (fun x vR vz hz12 hk13 => ?_)
      obtain ⟨n1, vat, i⟩ := x
      change r11_Within_s1 l b n1 vat i = _ at hz12
      unfold r11_Within_s1 at hz12
      refine awp_seq (awp_seq (awp_go hmix (go_run' ttok 2 rfl ?_)))
      refine go_lenT encTSlice l ttok rfl rfl rfl rfl rfl rfl ?_
      refine go_run' ttok 1 rfl (go_nil nd (then_norm ?_))
      refine awp_cond (b := (decide (i < ((l.length : Nat) : Int)))) rfl (fun c14 => ?_) (fun c14 => ?_)
      ·replace hz12 := of_bif_t hz12 c14
       refine awp_skip (then_norm (awp_seq (awp_block (awp_seq (awp_go hmix (go_run' ttok 11 rfl (go_nil nd (then_norm (awp_seq (awp_go hmix (go_run' ttok 4 rfl ?_)))))))))))
       obtain ⟨e, hv15, hz12⟩ := of_obind hz12
       refine go_indexT encTSlice l i e hv15 ttok rfl rfl rfl rfl rfl rfl rfl rfl rfl ?_
       refine go_run' ttok 2 rfl ?_
       refine go_call fn94 (r11_part_w (⟨(max b.z.a 0), (min b.z.b 20000)⟩ : Sp) vat e.Len _ rfl) rfl rfl rfl rfl rfl rfl rfl ?_
       refine go_run' ttok 1 rfl ?_
       refine go_nil (fun _ => by kernel_rfl) ?_
       refine then_norm (awp_seq (awp_seq (awp_go hmix (go_run' ttok 2 rfl (go_nil nd (then_norm ?_))))))
       refine awp_cond (b := (decide (0 < (r11_part_g (⟨(max b.z.a 0), (min b.z.b 20000)⟩ : Sp) vat e.Len)))) rfl (fun c16 => ?_) (fun c16 => ?_)
       ·replace hz12 := of_bif_t hz12 c16
        refine awp_go hmix (go_run' ttok 4 rfl ?_)
        obtain ⟨e1, hv17, hz12⟩ := of_obind hz12
        refine go_indexT encTSlice l i e1 hv17 ttok rfl rfl rfl rfl rfl rfl rfl rfl rfl ?_
        refine go_run' ttok 7 rfl ?_
        obtain ⟨wv, hv18, hz12⟩ := of_obind hz12
        refine go_call fn95 (r10_Within_w e1.Sec (⟨b.x, b.y⟩ : TRect) wv hv18) rfl rfl rfl rfl rfl rfl rfl ?_
        refine go_run' ttok 3 rfl ?_
        refine go_nil (fun _ => by kernel_rfl) ?_
        refine then_norm (awp_go hmix (go_run' ttok 3 rfl ?_))
        obtain ⟨e2, hv19, hz12⟩ := of_obind hz12
        refine go_indexT encTSlice l i e2 hv19 ttok rfl rfl rfl rfl rfl rfl rfl rfl rfl ?_
        refine go_run' ttok 4 rfl (go_nil nd (block_norm (then_norm (awp_go hmix (go_run' ttok 3 rfl (go_nil nd ?_))))))
        have e20 := of_some hz12
        subst e20
        refine then_norm ⟨rfl, ((W64 (n1 + (W64 ((r11_part_g (⟨(max b.z.a 0), (min b.z.b 20000)⟩ : Sp) vat e.Len) * wv)))), (W64 (vat + e2.Len)), (W64 (i + 1))), [(3, some 3)], ⟨rfl, rfl, rfl, rfl, rfl, ⟨wkP_id _ rfl, wkP_id _ rfl, wkP_id _ rfl, trivial⟩, trivial⟩, hk13⟩
       ·replace hz12 := of_bif_f hz12 c16
        refine awp_skip (then_norm (awp_go hmix (go_run' ttok 3 rfl ?_)))
        obtain ⟨e3, hv21, hz12⟩ := of_obind hz12
        refine go_indexT encTSlice l i e3 hv21 ttok rfl rfl rfl rfl rfl rfl rfl rfl rfl ?_
        refine go_run' ttok 4 rfl (go_nil nd (block_norm (then_norm (awp_go hmix (go_run' ttok 3 rfl (go_nil nd ?_))))))
        have e22 := of_some hz12
        subst e22
        refine then_norm ⟨rfl, (n1, (W64 (vat + e3.Len)), (W64 (i + 1))), [(3, some 3)], ⟨rfl, rfl, rfl, rfl, rfl, ⟨wkP_id _ rfl, wkP_id _ rfl, wkP_id _ rfl, trivial⟩, trivial⟩, hk13⟩
      ·replace hz12 := of_bif_f hz12 c14
       refine awp_exit (then_exit ?_)
       obtain ⟨t, hn23, hq⟩ := of_mapr' hz12
       subst hq
       have hq : t = _ := hk13
       subst hq
       refine then_exit (block_here ?_)
       have e24 := of_some hn23
       refine then_norm ⟨rfl, n1, [], ⟨rfl, rfl, rfl, rfl, rfl, ⟨wkP_id _ rfl, trivial⟩, trivial⟩, e24⟩
     ·intro n hw11
      subst hw11
      refine awp_seq (awp_go hmix (go_run' ttok 2 rfl (go_nil nd (then_norm (awp_ret ?_)))))
      have e25 := of_some h
      subst e25
      refine ret_ret ?_
      refine fin0 ttok rfl rfl ?_
      exact (wkP_refl _ rfl)
noncomputable def r13_bounded_g (s : Sp) : Bool :=
 (bif (decide ((-1099511627776) ≤ s.a)) then (bif (decide (s.a ≤ 1099511627776)) then (bif (decide ((-1099511627776) ≤ s.b)) then (decide (s.b ≤ 1099511627776)) else false) else false) else false)
theorem r13_bounded_w (s : Sp) (r : Bool) (h : r13_bounded_g s = r) : Holds Tryz.prog 96 [(encSp s)] [] (B r) [] := by
 unfold r13_bounded_g at h
 refine holds_fn Tryz.func96 rfl Tryz.ntmps96 rfl rfl rfl (fun lim => ?_)
 refine awp_seq (awp_go hmix (go_run' ttok 2 rfl (go_nil nd (then_norm (awp_seq (awp_go hmix (go_run' ttok 4 rfl ?_)))))))
 refine go_gcase rfl rfl rfl (fun g1 => ?_) (fun g1 => ?_)
 ·rw [g1]
  replace h := of_bif_t h g1
  refine go_run' ttok 5 rfl ?_
  refine go_gcase rfl rfl rfl (fun g2 => ?_) (fun g2 => ?_)
  ·rw [g2]
   replace h := of_bif_t h g2
   refine go_run' ttok 5 rfl ?_
   refine go_gcase rfl rfl rfl (fun g3 => ?_) (fun g3 => ?_)
   ·rw [g3]
    replace h := of_bif_t h g3
    refine go_run' ttok 5 rfl (go_nil nd (then_norm (awp_ret ?_)))
    have e4 := h
    subst e4
    refine ret_ret ?_
    refine fin0 ttok rfl rfl ?_
    exact (wkP_refl _ rfl)
   ·rw [g3]
    replace h := of_bif_f h g3
    refine go_run' ttok 5 rfl (go_nil nd (then_norm (awp_ret ?_)))
    have e5 := h
    subst e5
    refine ret_ret ?_
    refine fin0 ttok rfl rfl ?_
    exact (wkP_refl _ rfl)
  ·rw [g2]
   replace h := of_bif_f h g2
   refine go_run' ttok 10 rfl (go_nil nd (then_norm (awp_ret ?_)))
   have e6 := h
   subst e6
   refine ret_ret ?_
   refine fin0 ttok rfl rfl ?_
   exact (wkP_refl _ rfl)
 ·rw [g1]
  replace h := of_bif_f h g1
  refine go_run' ttok 15 rfl (go_nil nd (then_norm (awp_ret ?_)))
  have e7 := h
  subst e7
  refine ret_ret ?_
  refine fin0 ttok rfl rfl ?_
  exact (wkP_refl _ rfl)
noncomputable def r03_Meet_g (a : Sp) (b : Sp) : Sp :=
 (bif (decide ((min a.b b.b) ≤ (max a.a b.a))) then (⟨0, 0⟩ : Sp) else (⟨(max a.a b.a), (min a.b b.b)⟩ : Sp))
theorem r03_Meet_w (a : Sp) (b : Sp) (r : Sp) (h : r03_Meet_g a b = r) : Holds Tryz.prog 150 [(encSp a), (encSp b)] [] (encSp r) [] := by
 unfold r03_Meet_g at h
 refine holds_fn Tryz.func150 rfl Tryz.ntmps150 rfl rfl rfl (fun lim => ?_)
 refine awp_seq (awp_go hmix (go_run' ttok 3 rfl (go_nil nd (then_norm (awp_seq (awp_go hmix (go_run' ttok 13 rfl (go_nil nd (then_norm (awp_seq (awp_seq (awp_go hmix (go_run' ttok 5 rfl (go_nil nd (then_norm ?_)))))))))))))))
 refine awp_cond (b := (decide ((min a.b b.b) ≤ (max a.a b.a)))) rfl (fun c1 => ?_) (fun c1 => ?_)
 ·replace h := of_bif_t h c1
  refine awp_seq (awp_go hmix (go_run' ttok 2 rfl (go_nil nd (then_norm (awp_ret (then_ret ?_))))))
  have e2 := h
  subst e2
  refine ret_ret ?_
  refine fin0 ttok rfl rfl ?_
  exact (wkP_refl _ rfl)
 ·replace h := of_bif_f h c1
  refine awp_skip (then_norm (awp_seq (awp_go hmix (go_run' ttok 2 rfl (go_nil nd (then_norm (awp_ret ?_)))))))
  have e3 := h
  subst e3
  refine ret_ret ?_
  refine fin0 ttok rfl rfl ?_
  exact (wkP_refl _ rfl)
noncomputable def r13_Meet_g (a : Bx) (b : Bx) : Bx :=
 (letB (r03_Meet_g a.x b.x) (fun mv => (letB (r03_Meet_g a.y b.y) (fun mv1 => (letB (r03_Meet_g a.z b.z) (fun mv2 => (⟨mv, mv1, mv2⟩ : Bx)))))))
theorem r13_Meet_w (a : Bx) (b : Bx) (r : Bx) (h : r13_Meet_g a b = r) : Holds Tryz.prog 99 [(encBx a), (encBx b)] [] (encBx r) [] := by
 unfold r13_Meet_g at h
 refine holds_fn Tryz.func99 rfl Tryz.ntmps99 rfl rfl rfl (fun lim => ?_)
 refine awp_seq (awp_go hmix (go_run' ttok 3 rfl (go_nil nd (then_norm (awp_seq (awp_go hmix (go_run' ttok 4 rfl ?_)))))))
 obtain ⟨mv, hv1, h⟩ := of_let h
 refine go_call fn150 (r03_Meet_w a.x b.x mv hv1) rfl rfl rfl rfl rfl rfl rfl ?_
 refine go_run' ttok 4 rfl ?_
 obtain ⟨mv1, hv2, h⟩ := of_let h
 refine go_call fn150 (r03_Meet_w a.y b.y mv1 hv2) rfl rfl rfl rfl rfl rfl rfl ?_
 refine go_run' ttok 4 rfl ?_
 obtain ⟨mv2, hv3, h⟩ := of_let h
 refine go_call fn150 (r03_Meet_w a.z b.z mv2 hv3) rfl rfl rfl rfl rfl rfl rfl ?_
 refine go_run' ttok 2 rfl ?_
 refine go_nil (fun _ => by kernel_rfl) ?_
 refine then_norm (awp_ret ?_)
 have e4 := h
 subst e4
 refine ret_ret ?_
 refine fin0 ttok rfl rfl ?_
 exact (wkP_refl _ rfl)
noncomputable def r13_Touches_g (d : Df) (b : Bx) : Bool :=
 (letB (r13_Meet_g d.b b) (fun mv => (!(r13_Empty_g mv))))
theorem r13_Touches_w (d : Df) (b : Bx) (r : Bool) (h : r13_Touches_g d b = r) : Holds Tryz.prog 97 [(encDf d), (encBx b)] [] (B r) [] := by
 unfold r13_Touches_g at h
 refine holds_fn Tryz.func97 rfl Tryz.ntmps97 rfl rfl rfl (fun lim => ?_)
 refine awp_seq (awp_go hmix (go_run' ttok 3 rfl (go_nil nd (then_norm (awp_seq (awp_go hmix (go_run' ttok 3 rfl ?_)))))))
 obtain ⟨mv, hv1, h⟩ := of_let h
 refine go_call fn99 (r13_Meet_w d.b b mv hv1) rfl rfl rfl rfl rfl rfl rfl ?_
 refine go_call fn86 (r13_Empty_w mv _ rfl) rfl rfl rfl rfl rfl rfl rfl ?_
 refine go_run' ttok 2 rfl (go_nil nd (then_norm (awp_ret ?_)))
 have e2 := h
 subst e2
 refine ret_ret ?_
 refine fin0 ttok rfl rfl ?_
 exact (wkP_refl _ rfl)
noncomputable def r13_by_g (s : Sp) (n : Int) : Sp :=
 (⟨(W64 (s.a + n)), (W64 (s.b + n))⟩ : Sp)
theorem r13_by_w (s : Sp) (n : Int) (r : Sp) (h : r13_by_g s n = r) : Holds Tryz.prog 149 [(encSp s), (I n)] [] (encSp r) [] := by
 unfold r13_by_g at h
 refine holds_fn Tryz.func149 rfl Tryz.ntmps149 rfl rfl rfl (fun lim => ?_)
 refine awp_seq (awp_go hmix (go_run' ttok 2 rfl (go_nil nd (then_norm (awp_seq (awp_go hmix (go_run' ttok 10 rfl (go_nil nd (then_norm (awp_ret ?_))))))))))
 have e1 := h
 subst e1
 refine ret_ret ?_
 refine fin0 ttok rfl rfl ?_
 exact (wkP_refl _ rfl)
noncomputable def r13_Move_g (b : Bx) (x : Int) (y : Int) (vz : Int) : Bx :=
 (letB (r13_by_g b.x x) (fun bv => (letB (r13_by_g b.y y) (fun bv1 => (letB (r13_by_g b.z vz) (fun bv2 => (⟨bv, bv1, bv2⟩ : Bx)))))))
theorem r13_Move_w (b : Bx) (x : Int) (y : Int) (vz : Int) (r : Bx) (h : r13_Move_g b x y vz = r) : Holds Tryz.prog 98 [(encBx b), (I x), (I y), (I vz)] [] (encBx r) [] := by
 unfold r13_Move_g at h
 refine holds_fn Tryz.func98 rfl Tryz.ntmps98 rfl rfl rfl (fun lim => ?_)
 refine awp_seq (awp_go hmix (go_run' ttok 2 rfl (go_nil nd (then_norm (awp_seq (awp_go hmix (go_run' ttok 3 rfl ?_)))))))
 obtain ⟨bv, hv1, h⟩ := of_let h
 refine go_call fn149 (r13_by_w b.x x bv hv1) rfl rfl rfl rfl rfl rfl rfl ?_
 refine go_run' ttok 3 rfl ?_
 obtain ⟨bv1, hv2, h⟩ := of_let h
 refine go_call fn149 (r13_by_w b.y y bv1 hv2) rfl rfl rfl rfl rfl rfl rfl ?_
 refine go_run' ttok 3 rfl ?_
 obtain ⟨bv2, hv3, h⟩ := of_let h
 refine go_call fn149 (r13_by_w b.z vz bv2 hv3) rfl rfl rfl rfl rfl rfl rfl ?_
 refine go_run' ttok 2 rfl ?_
 refine go_nil (fun _ => by kernel_rfl) ?_
 refine then_norm (awp_ret ?_)
 have e4 := h
 subst e4
 refine ret_ret ?_
 refine fin0 ttok rfl rfl ?_
 exact (wkP_refl _ rfl)
noncomputable def r13_Clip_s1 (l : (List Df)) (b : Bx) (out1 : (List Df)) (i : Int) : Option (((List Df) × Int) ⊕ (List Df)) :=
 (bif (decide (i < ((l.length : Nat) : Int))) then (Option.bind (getI l i) (fun e => (bif (r13_Touches_g e b) then (Option.bind (getI l i) (fun e1 => (Option.bind (getI l i) (fun e2 => (letB (r13_Meet_g e2.b b) (fun mv => (letB (r13_Move_g mv (W64 (0 - b.x.a)) (W64 (0 - b.y.a)) (W64 (0 - b.z.a))) (fun mv1 => (Option.bind (appO 56 out1 ([(⟨e1.k, mv1⟩ : Df)])) (fun l1 => some (Sum.inl (l1, (W64 (i + 1)))))))))))))) else some (Sum.inl (out1, (W64 (i + 1))))))) else some (Sum.inr out1))
noncomputable def r13_Clip_g (l : (List Df)) (b : Bx) : Option (List Df) :=
 (Option.bind (r13_Check_g l) (fun cv => (bif (cv != 0) then some ([]) else (bif (!(r13_bounded_g b.x)) then some ([]) else (bif (!(r13_bounded_g b.y)) then some ([]) else (bif (!(r13_bounded_g b.z)) then some ([]) else (Option.bind ((loopO (fun q => r13_Clip_s1 l b q.1 q.2) ([], 0)) : Option (List Df)) (fun out => some out))))))))
theorem r13_Clip_w (l : (List Df)) (b : Bx) (r : (List Df)) (h : r13_Clip_g l b = some r) : Holds Tryz.prog 48 [((encL encDf) l), (encBx b)] [] ((encL encDf) r) [] := by
 unfold r13_Clip_g at h
 refine holds_fn Tryz.func48 rfl Tryz.ntmps48 rfl rfl rfl (fun lim => ?_)
 refine awp_seq (awp_go hmix (go_run' ttok 2 rfl (go_nil nd (then_norm (awp_seq (awp_seq (awp_go hmix (go_run' ttok 1 rfl ?_))))))))
 obtain ⟨cv, hv1, h⟩ := of_obind h
 refine go_call fn39 (r13_Check_w l cv hv1) rfl rfl rfl rfl rfl rfl rfl ?_
 refine go_run' ttok 2 rfl ?_
 refine go_gcase rfl rfl rfl (fun g2 => ?_) (fun g2 => ?_)
 ·rw [g2]
  replace h := of_bif_t h g2
  refine go_run' ttok 17 rfl (go_nil nd (then_norm ?_))
  refine awp_cond rfl (fun tt0 => ?_) (fun h => by cases h)
  clear tt0
  refine awp_seq (awp_go hmix (go_run' ttok 1 rfl (go_nil nd (then_norm (awp_ret (then_ret ?_))))))
  have e3 := of_some h
  subst e3
  refine ret_ret ?_
  refine fin0 ttok rfl rfl ?_
  exact wkP_nilm
 ·rw [g2]
  replace h := of_bif_f h g2
  refine go_run' ttok 2 rfl ?_
  refine go_call fn96 (r13_bounded_w b.x _ rfl) rfl rfl rfl rfl rfl rfl rfl ?_
  refine go_run' ttok 3 rfl ?_
  refine go_gcase rfl rfl rfl (fun g4 => ?_) (fun g4 => ?_)
  ·rw [g4]
   replace h := of_bif_t h g4
   refine go_run' ttok 11 rfl (go_nil nd (then_norm ?_))
   refine awp_cond rfl (fun tt0 => ?_) (fun h => by cases h)
   clear tt0
   refine awp_seq (awp_go hmix (go_run' ttok 1 rfl (go_nil nd (then_norm (awp_ret (then_ret ?_))))))
   have e5 := of_some h
   subst e5
   refine ret_ret ?_
   refine fin0 ttok rfl rfl ?_
   exact wkP_nilm
  ·rw [g4]
   replace h := of_bif_f h g4
   refine go_run' ttok 2 rfl ?_
   refine go_call fn96 (r13_bounded_w b.y _ rfl) rfl rfl rfl rfl rfl rfl rfl ?_
   refine go_run' ttok 3 rfl ?_
   refine go_gcase rfl rfl rfl (fun g6 => ?_) (fun g6 => ?_)
   ·rw [g6]
    replace h := of_bif_t h g6
    refine go_run' ttok 5 rfl (go_nil nd (then_norm ?_))
    refine awp_cond rfl (fun tt0 => ?_) (fun h => by cases h)
    clear tt0
    refine awp_seq (awp_go hmix (go_run' ttok 1 rfl (go_nil nd (then_norm (awp_ret (then_ret ?_))))))
    have e7 := of_some h
    subst e7
    refine ret_ret ?_
    refine fin0 ttok rfl rfl ?_
    exact wkP_nilm
   ·rw [g6]
    replace h := of_bif_f h g6
    refine go_run' ttok 2 rfl ?_
    refine go_call fn96 (r13_bounded_w b.z _ rfl) rfl rfl rfl rfl rfl rfl rfl ?_
    refine go_run' ttok 2 rfl (go_nil nd (then_norm ?_))
    refine awp_cond (b := (!(r13_bounded_g b.z))) rfl (fun c8 => ?_) (fun c8 => ?_)
    ·replace h := of_bif_t h c8
     refine awp_seq (awp_go hmix (go_run' ttok 1 rfl (go_nil nd (then_norm (awp_ret (then_ret ?_))))))
     have e9 := of_some h
     subst e9
     refine ret_ret ?_
     refine fin0 ttok rfl rfl ?_
     exact wkP_nilm
    ·replace h := of_bif_f h c8
     refine awp_skip (then_norm (awp_seq (awp_go hmix (go_run' ttok 1 rfl (go_nil nd (then_norm ?_))))))
     obtain ⟨y, hx10, h⟩ := of_obind h
     refine awp_seqJ (X := (List Df)) [] [] (fun w => [(5, (.arr 5 0 w.length))]) (fun w => [(5, some ⟨71, 7, w.map encDf⟩)]) (fun w => w = y) rfl rfl ?_ ?_
     ·skip
      refine awp_seq (awp_go hmix (go_run' ttok 1 rfl (go_nil nd (then_norm (awp_block ?_)))))
      refine awp_loopD (X := ((List Df) × Int)) (Y := (List Df)) [0, 3] [3] (fun q => [(5, (.arr 5 0 q.1.length)), (6, (I q.2))]) (fun q => [(5, some ⟨71, 7, q.1.map encDf⟩)]) (fun q => r13_Clip_s1 l b q.1 q.2) ([], 0) [(5, none), (3, some 3)] hx10 ⟨rfl, rfl, rfl, rfl, rfl, ⟨⟨rfl, rfl, (by first | rfl | (simp [setI]; done) | omega | (dsimp only; omega) | (simp [setI]; omega))⟩, wkP_id _ rfl, trivial⟩, ⟨rfl, trivial⟩⟩ (fun x vR vz hz12 hk13 => ?_)
      obtain ⟨out1, i⟩ := x
      change r13_Clip_s1 l b out1 i = _ at hz12
      unfold r13_Clip_s1 at hz12
      refine awp_seq (awp_seq (awp_go hmix (go_run' ttok 2 rfl ?_)))
      refine go_lenT encDf l ttok rfl rfl rfl rfl rfl rfl ?_
      refine go_run' ttok 1 rfl (go_nil nd (then_norm ?_))
      refine awp_cond (b := (decide (i < ((l.length : Nat) : Int)))) rfl (fun c14 => ?_) (fun c14 => ?_)
      ·replace hz12 := of_bif_t hz12 c14
       refine awp_skip (then_norm (awp_seq (awp_block (awp_seq (awp_go hmix (go_run' ttok 2 rfl ?_))))))
       obtain ⟨e, hv15, hz12⟩ := of_obind hz12
       refine go_indexT encDf l i e hv15 ttok rfl rfl rfl rfl rfl rfl rfl rfl rfl ?_
       refine go_run' ttok 2 rfl ?_
       refine go_call fn97 (r13_Touches_w e b _ rfl) rfl rfl rfl rfl rfl rfl rfl ?_
       refine go_nil (fun _ => by kernel_rfl) ?_
       refine then_norm ?_
       refine awp_cond (b := (r13_Touches_g e b)) rfl (fun c16 => ?_) (fun c16 => ?_)
       ·replace hz12 := of_bif_t hz12 c16
        refine awp_go hmix (go_run' ttok 3 rfl ?_)
        obtain ⟨e1, hv17, hz12⟩ := of_obind hz12
        refine go_indexT encDf l i e1 hv17 ttok rfl rfl rfl rfl rfl rfl rfl rfl rfl ?_
        refine go_run' ttok 4 rfl ?_
        obtain ⟨e2, hv18, hz12⟩ := of_obind hz12
        refine go_indexT encDf l i e2 hv18 ttok rfl rfl rfl rfl rfl rfl rfl rfl rfl ?_
        refine go_run' ttok 3 rfl ?_
        obtain ⟨mv, hv19, hz12⟩ := of_let hz12
        refine go_call fn99 (r13_Meet_w e2.b b mv hv19) rfl rfl rfl rfl rfl rfl rfl ?_
        refine go_run' ttok 12 rfl ?_
        obtain ⟨mv1, hv20, hz12⟩ := of_let hz12
        refine go_call fn98 (r13_Move_w mv (W64 (0 - b.x.a)) (W64 (0 - b.y.a)) (W64 (0 - b.z.a)) mv1 hv20) rfl rfl rfl rfl rfl rfl rfl ?_
        refine go_run' ttok 2 rfl ?_
        obtain ⟨l1, hv21, hz12⟩ := of_obind hz12
        refine go_appT encDf out1 ([(⟨e1.k, mv1⟩ : Df)]) l1 hv21 (fun _ => rfl) (by first | rfl | (simp [setI]; done) | omega | (dsimp only; omega) | (simp [setI]; omega)) (by first | rfl | (simp [setI]; done) | omega | (dsimp only; omega) | (simp [setI]; omega)) ttok rfl rfl rfl rfl rfl rfl rfl rfl rfl rfl rfl rfl rfl rfl rfl rfl rfl ?_
        refine go_run' ttok 1 rfl ?_
        refine go_nil (fun _ => by kernel_rfl) ?_
        refine block_norm (then_norm (awp_go hmix (go_run' ttok 3 rfl (go_nil nd ?_))))
        have e22 := of_some hz12
        subst e22
        refine then_norm ⟨rfl, (l1, (W64 (i + 1))), [(5, some 68), (3, some 3)], ⟨rfl, rfl, rfl, rfl, rfl, ⟨⟨rfl, rfl, (by first | rfl | (simp [setI]; done) | omega | (dsimp only; omega) | (simp [setI]; omega))⟩, wkP_id _ rfl, trivial⟩, ⟨⟨_, rfl, rfl, rfl, wkX_map (enc := encDf) l1 (fun _ => rfl)⟩, trivial⟩⟩, hk13⟩
       ·replace hz12 := of_bif_f hz12 c16
        refine awp_skip (block_norm (then_norm (awp_go hmix (go_run' ttok 3 rfl (go_nil nd ?_)))))
        have e23 := of_some hz12
        subst e23
        refine then_norm ⟨rfl, (out1, (W64 (i + 1))), [(5, some 5), (3, some 3)], ⟨rfl, rfl, rfl, rfl, rfl, ⟨⟨rfl, rfl, (by first | rfl | (simp [setI]; done) | omega | (dsimp only; omega) | (simp [setI]; omega))⟩, wkP_id _ rfl, trivial⟩, ⟨⟨_, rfl, rfl, rfl, wkX_map (enc := encDf) out1 (fun _ => rfl)⟩, trivial⟩⟩, hk13⟩
      ·replace hz12 := of_bif_f hz12 c14
       refine awp_exit (then_exit ?_)
       obtain ⟨t, hn24, hq⟩ := of_mapr' hz12
       subst hq
       have hq : t = _ := hk13
       subst hq
       refine then_exit (block_here ?_)
       have e25 := of_some hn24
       refine then_norm ⟨rfl, out1, [(5, some 5)], ⟨rfl, rfl, rfl, rfl, rfl, ⟨⟨rfl, rfl, (by first | rfl | (simp [setI]; done) | omega | (dsimp only; omega) | (simp [setI]; omega))⟩, trivial⟩, ⟨⟨_, rfl, rfl, rfl, wkX_map (enc := encDf) out1 (fun _ => rfl)⟩, trivial⟩⟩, e25⟩
     ·intro out hw11
      subst hw11
      refine awp_seq (awp_go hmix (go_run' ttok 2 rfl (go_nil nd (then_norm ?_))))
      refine awp_freezeM [] [] [(5, some ⟨71, 7, out.map encDf⟩)] [] [(4, (encL encDf out))] [] rfl rfl rfl rfl rfl ⟨rfl, by decide, trivial⟩ ⟨(wkP_lend rfl (by first | rfl | (simp [setI]; done) | omega | (dsimp only; omega) | (simp [setI]; omega)) (fun _ => rfl)), trivial⟩ trivial ?_
      refine awp_ret ?_
      have e26 := of_some h
      subst e26
      refine ret_ret ?_
      refine fin0 ttok rfl rfl ?_
      exact (wkP_refl _ rfl)
noncomputable def r20_across_g (s : Sp) : Bool :=
 (bif (decide ((-600) ≤ s.a)) then (bif (decide (s.a < s.b)) then (decide (s.b ≤ 600)) else false) else false)
theorem r20_across_w (s : Sp) (r : Bool) (h : r20_across_g s = r) : Holds Tryz.prog 151 [(encSp s)] [] (B r) [] := by
 unfold r20_across_g at h
 refine holds_fn Tryz.func151 rfl Tryz.ntmps151 rfl rfl rfl (fun lim => ?_)
 refine awp_seq (awp_go hmix (go_run' ttok 2 rfl (go_nil nd (then_norm (awp_seq (awp_go hmix (go_run' ttok 4 rfl ?_)))))))
 refine go_gcase rfl rfl rfl (fun g1 => ?_) (fun g1 => ?_)
 ·rw [g1]
  replace h := of_bif_t h g1
  refine go_run' ttok 7 rfl ?_
  refine go_gcase rfl rfl rfl (fun g2 => ?_) (fun g2 => ?_)
  ·rw [g2]
   replace h := of_bif_t h g2
   refine go_run' ttok 5 rfl (go_nil nd (then_norm (awp_ret ?_)))
   have e3 := h
   subst e3
   refine ret_ret ?_
   refine fin0 ttok rfl rfl ?_
   exact (wkP_refl _ rfl)
  ·rw [g2]
   replace h := of_bif_f h g2
   refine go_run' ttok 5 rfl (go_nil nd (then_norm (awp_ret ?_)))
   have e4 := h
   subst e4
   refine ret_ret ?_
   refine fin0 ttok rfl rfl ?_
   exact (wkP_refl _ rfl)
 ·rw [g1]
  replace h := of_bif_f h g1
  refine go_run' ttok 12 rfl (go_nil nd (then_norm (awp_ret ?_)))
  have e5 := h
  subst e5
  refine ret_ret ?_
  refine fin0 ttok rfl rfl ?_
  exact (wkP_refl _ rfl)
noncomputable def r11_Length_s1 (l : (List TSlice)) (n1 : Int) (i : Int) : Option ((Int × Int) ⊕ Int) :=
 (bif (decide (i < ((l.length : Nat) : Int))) then (Option.bind (getI l i) (fun e => some (Sum.inl ((W64 (n1 + e.Len)), (W64 (i + 1)))))) else some (Sum.inr n1))
noncomputable def r11_Length_g (l : (List TSlice)) : Option Int :=
 (Option.bind (r11_Check_g l) (fun cv => (bif (cv != 0) then some 0 else (Option.bind ((loopO (fun q => r11_Length_s1 l q.1 q.2) (0, 0)) : Option Int) (fun n => some n)))))
theorem r11_Length_w (l : (List TSlice)) (r : Int) (h : r11_Length_g l = some r) : Holds Tryz.prog 152 [((encL encTSlice) l)] [] (I r) [] := by
 unfold r11_Length_g at h
 refine holds_fn Tryz.func152 rfl Tryz.ntmps152 rfl rfl rfl (fun lim => ?_)
 refine awp_seq (awp_go hmix (go_run' ttok 1 rfl (go_nil nd (then_norm (awp_seq (awp_seq (awp_go hmix (go_run' ttok 1 rfl ?_))))))))
 obtain ⟨cv, hv1, h⟩ := of_obind h
 refine go_call fn93 (r11_Check_w l cv hv1) rfl rfl rfl rfl rfl rfl rfl ?_
 refine go_run' ttok 1 rfl (go_nil nd (then_norm ?_))
 refine awp_cond (b := (cv != 0)) rfl (fun c2 => ?_) (fun c2 => ?_)
 ·replace h := of_bif_t h c2
  refine awp_seq (awp_go hmix (go_run' ttok 1 rfl (go_nil nd (then_norm (awp_ret (then_ret ?_))))))
  have e3 := of_some h
  subst e3
  refine ret_ret ?_
  refine fin0 ttok rfl rfl ?_
  exact (wkP_refl _ rfl)
 ·replace h := of_bif_f h c2
  refine awp_skip (then_norm (awp_seq (awp_go hmix (go_run' ttok 1 rfl (go_nil nd (then_norm ?_))))))
  obtain ⟨y, hx4, h⟩ := of_obind h
  refine awp_seqJ (X := Int) [] [] (fun w => [(3, (I w))]) (fun w => []) (fun w => w = y) rfl rfl ?_ ?_
  ·skip
   refine awp_seq (awp_go hmix (go_run' ttok 1 rfl (go_nil nd (then_norm (awp_block ?_)))))
   refine awp_loopD (X := (Int × Int)) (Y := Int) [0] [] (fun q => [(3, (I q.1)), (4, (I q.2))]) (fun q => []) (fun q => r11_Length_s1 l q.1 q.2) (0, 0) [] hx4 ⟨rfl, rfl, rfl, rfl, rfl, ⟨wkP_id _ rfl, wkP_id _ rfl, trivial⟩, trivial⟩ (fun x vR vz hz6 hk7 => ?_)
   obtain ⟨n1, i⟩ := x
   change r11_Length_s1 l n1 i = _ at hz6
   unfold r11_Length_s1 at hz6
   refine awp_seq (awp_seq (awp_go hmix (go_run' ttok 2 rfl ?_)))
   refine go_lenT encTSlice l ttok rfl rfl rfl rfl rfl rfl ?_
   refine go_run' ttok 1 rfl (go_nil nd (then_norm ?_))
   refine awp_cond (b := (decide (i < ((l.length : Nat) : Int)))) rfl (fun c8 => ?_) (fun c8 => ?_)
   ·replace hz6 := of_bif_t hz6 c8
    refine awp_skip (then_norm (awp_seq (awp_block (awp_go hmix (go_run' ttok 3 rfl ?_)))))
    obtain ⟨e, hv9, hz6⟩ := of_obind hz6
    refine go_indexT encTSlice l i e hv9 ttok rfl rfl rfl rfl rfl rfl rfl rfl rfl ?_
    refine go_run' ttok 4 rfl (go_nil nd (block_norm (then_norm (awp_go hmix (go_run' ttok 3 rfl (go_nil nd ?_))))))
    have e10 := of_some hz6
    subst e10
    refine then_norm ⟨rfl, ((W64 (n1 + e.Len)), (W64 (i + 1))), [], ⟨rfl, rfl, rfl, rfl, rfl, ⟨wkP_id _ rfl, wkP_id _ rfl, trivial⟩, trivial⟩, hk7⟩
   ·replace hz6 := of_bif_f hz6 c8
    refine awp_exit (then_exit ?_)
    obtain ⟨t, hn11, hq⟩ := of_mapr' hz6
    subst hq
    have hq : t = _ := hk7
    subst hq
    refine then_exit (block_here ?_)
    have e12 := of_some hn11
    refine then_norm ⟨rfl, n1, [], ⟨rfl, rfl, rfl, rfl, rfl, ⟨wkP_id _ rfl, trivial⟩, trivial⟩, e12⟩
  ·intro n hw5
   subst hw5
   refine awp_seq (awp_go hmix (go_run' ttok 2 rfl (go_nil nd (then_norm (awp_ret ?_)))))
   have e13 := of_some h
   subst e13
   refine ret_ret ?_
   refine fin0 ttok rfl rfl ?_
   exact (wkP_refl _ rfl)
noncomputable def r20_within_g (l : (List TSlice)) (b : Bx) : Option Bool :=
 (bif (r20_across_g b.x) then (bif (r20_across_g b.y) then (bif (decide (0 ≤ b.z.a)) then (bif (decide (b.z.a < b.z.b)) then (Option.bind (r11_Length_g l) (fun lv => some (decide (b.z.b ≤ lv)))) else some false) else some false) else some false) else some false)
theorem r20_within_w (l : (List TSlice)) (b : Bx) (r : Bool) (h : r20_within_g l b = some r) : Holds Tryz.prog 100 [((encL encTSlice) l), (encBx b)] [] (B r) [] := by
 unfold r20_within_g at h
 refine holds_fn Tryz.func100 rfl Tryz.ntmps100 rfl rfl rfl (fun lim => ?_)
 refine awp_seq (awp_go hmix (go_run' ttok 2 rfl (go_nil nd (then_norm (awp_seq (awp_go hmix (go_run' ttok 2 rfl ?_)))))))
 refine go_call fn151 (r20_across_w b.x _ rfl) rfl rfl rfl rfl rfl rfl rfl ?_
 refine go_run' ttok 1 rfl ?_
 refine go_gcase rfl rfl rfl (fun g1 => ?_) (fun g1 => ?_)
 ·rw [g1]
  replace h := of_bif_t h g1
  refine go_run' ttok 2 rfl ?_
  refine go_call fn151 (r20_across_w b.y _ rfl) rfl rfl rfl rfl rfl rfl rfl ?_
  refine go_run' ttok 2 rfl ?_
  refine go_gcase rfl rfl rfl (fun g2 => ?_) (fun g2 => ?_)
  ·rw [g2]
   replace h := of_bif_t h g2
   refine go_run' ttok 6 rfl ?_
   refine go_gcase rfl rfl rfl (fun g3 => ?_) (fun g3 => ?_)
   ·rw [g3]
    replace h := of_bif_t h g3
    refine go_run' ttok 9 rfl ?_
    refine go_gcase rfl rfl rfl (fun g4 => ?_) (fun g4 => ?_)
    ·rw [g4]
     replace h := of_bif_t h g4
     refine go_run' ttok 4 rfl ?_
     obtain ⟨lv, hv5, h⟩ := of_obind h
     refine go_call fn152 (r11_Length_w l lv hv5) rfl rfl rfl rfl rfl rfl rfl ?_
     refine go_run' ttok 3 rfl ?_
     refine go_nil (fun _ => by kernel_rfl) ?_
     refine then_norm (awp_ret ?_)
     have e6 := of_some h
     subst e6
     refine ret_ret ?_
     refine fin0 ttok rfl rfl ?_
     exact (wkP_refl _ rfl)
    ·rw [g4]
     replace h := of_bif_f h g4
     refine go_run' ttok 8 rfl ?_
     refine go_nil (fun _ => by kernel_rfl) ?_
     refine then_norm (awp_ret ?_)
     have e7 := of_some h
     subst e7
     refine ret_ret ?_
     refine fin0 ttok rfl rfl ?_
     exact (wkP_refl _ rfl)
   ·rw [g3]
    replace h := of_bif_f h g3
    refine go_run' ttok 17 rfl ?_
    refine go_nil (fun _ => by kernel_rfl) ?_
    refine then_norm (awp_ret ?_)
    have e8 := of_some h
    subst e8
    refine ret_ret ?_
    refine fin0 ttok rfl rfl ?_
    exact (wkP_refl _ rfl)
  ·rw [g2]
   replace h := of_bif_f h g2
   refine go_run' ttok 23 rfl ?_
   refine go_nil (fun _ => by kernel_rfl) ?_
   refine then_norm (awp_ret ?_)
   have e9 := of_some h
   subst e9
   refine ret_ret ?_
   refine fin0 ttok rfl rfl ?_
   exact (wkP_refl _ rfl)
 ·rw [g1]
  replace h := of_bif_f h g1
  refine go_run' ttok 28 rfl ?_
  refine go_nil (fun _ => by kernel_rfl) ?_
  refine then_norm (awp_ret ?_)
  have e10 := of_some h
  subst e10
  refine ret_ret ?_
  refine fin0 ttok rfl rfl ?_
  exact (wkP_refl _ rfl)
noncomputable def r11_Cut_s1 (l : (List TSlice)) (vz : Sp) (out1 : (List TSlice)) (vat : Int) (i : Int) : Option (((List TSlice) × Int × Int) ⊕ (List TSlice)) :=
 (bif (decide (i < ((l.length : Nat) : Int))) then (Option.bind (getI l i) (fun e => (bif (decide (0 < (r11_part_g (⟨(max vz.a 0), (min vz.b 20000)⟩ : Sp) vat e.Len))) then (Option.bind (getI l i) (fun e1 => (Option.bind (appO 40 out1 ([(⟨(r11_part_g (⟨(max vz.a 0), (min vz.b 20000)⟩ : Sp) vat e.Len), e1.Sec⟩ : TSlice)])) (fun l1 => (Option.bind (getI l i) (fun e2 => some (Sum.inl (l1, (W64 (vat + e2.Len)), (W64 (i + 1)))))))))) else (Option.bind (getI l i) (fun e3 => some (Sum.inl (out1, (W64 (vat + e3.Len)), (W64 (i + 1))))))))) else some (Sum.inr out1))
noncomputable def r11_Cut_g (l : (List TSlice)) (vz : Sp) : Option (List TSlice) :=
 (Option.bind (r11_Check_g l) (fun cv => (bif (cv != 0) then some ([]) else (Option.bind ((loopO (fun q => r11_Cut_s1 l vz q.1 q.2.1 q.2.2) ([], 0, 0)) : Option (List TSlice)) (fun out => some out)))))
theorem r11_Cut_w (l : (List TSlice)) (vz : Sp) (r : (List TSlice)) (h : r11_Cut_g l vz = some r) : Holds Tryz.prog 153 [((encL encTSlice) l), (encSp vz)] [] ((encL encTSlice) r) [] := by
 unfold r11_Cut_g at h
 refine holds_fn Tryz.func153 rfl Tryz.ntmps153 rfl rfl rfl (fun lim => ?_)
 refine awp_seq (awp_go hmix (go_run' ttok 2 rfl (go_nil nd (then_norm (awp_seq (awp_seq (awp_go hmix (go_run' ttok 1 rfl ?_))))))))
 obtain ⟨cv, hv1, h⟩ := of_obind h
 refine go_call fn93 (r11_Check_w l cv hv1) rfl rfl rfl rfl rfl rfl rfl ?_
 refine go_run' ttok 1 rfl (go_nil nd (then_norm ?_))
 refine awp_cond (b := (cv != 0)) rfl (fun c2 => ?_) (fun c2 => ?_)
 ·replace h := of_bif_t h c2
  refine awp_seq (awp_go hmix (go_run' ttok 1 rfl (go_nil nd (then_norm (awp_ret (then_ret ?_))))))
  have e3 := of_some h
  subst e3
  refine ret_ret ?_
  refine fin0 ttok rfl rfl ?_
  exact wkP_nilm
 ·replace h := of_bif_f h c2
  refine awp_skip (then_norm (awp_seq (awp_go hmix (go_run' ttok 1 rfl (go_nil nd (then_norm (awp_seq (awp_go hmix (go_run' ttok 8 rfl (go_nil nd (then_norm (awp_seq (awp_go hmix (go_run' ttok 1 rfl (go_nil nd (then_norm ?_))))))))))))))))
  obtain ⟨y, hx4, h⟩ := of_obind h
  refine awp_seqJ (X := (List TSlice)) [] [] (fun w => [(5, (.arr 5 0 w.length))]) (fun w => [(5, some ⟨82, 3, w.map encTSlice⟩)]) (fun w => w = y) rfl rfl ?_ ?_
  ·skip
   refine awp_seq (awp_go hmix (go_run' ttok 1 rfl (go_nil nd (then_norm (awp_block ?_)))))
   refine awp_loopD (X := ((List TSlice) × Int × Int)) (Y := (List TSlice)) [0, 3] [3] (fun q => [(5, (.arr 5 0 q.1.length)), (6, (I q.2.1)), (7, (I q.2.2))]) (fun q => [(5, some ⟨82, 3, q.1.map encTSlice⟩)]) (fun q => r11_Cut_s1 l vz q.1 q.2.1 q.2.2) ([], 0, 0) [(5, none), (3, some 3)] hx4 ⟨rfl, rfl, rfl, rfl, rfl, ⟨⟨rfl, rfl, (by first | rfl | (simp [setI]; done) | omega | (dsimp only; omega) | (simp [setI]; omega))⟩, wkP_id _ rfl, wkP_id _ rfl, trivial⟩, ⟨rfl, trivial⟩⟩ (fun x vR vz1 hz6 hk7 => ?_)
   obtain ⟨out1, vat, i⟩ := x
   change r11_Cut_s1 l vz out1 vat i = _ at hz6
   unfold r11_Cut_s1 at hz6
   refine awp_seq (awp_seq (awp_go hmix (go_run' ttok 2 rfl ?_)))
   refine go_lenT encTSlice l ttok rfl rfl rfl rfl rfl rfl ?_
   refine go_run' ttok 1 rfl (go_nil nd (then_norm ?_))
   refine awp_cond (b := (decide (i < ((l.length : Nat) : Int)))) rfl (fun c8 => ?_) (fun c8 => ?_)
   ·replace hz6 := of_bif_t hz6 c8
    refine awp_skip (then_norm (awp_seq (awp_block (awp_seq (awp_go hmix (go_run' ttok 4 rfl ?_))))))
    obtain ⟨e, hv9, hz6⟩ := of_obind hz6
    refine go_indexT encTSlice l i e hv9 ttok rfl rfl rfl rfl rfl rfl rfl rfl rfl ?_
    refine go_run' ttok 2 rfl ?_
    refine go_call fn94 (r11_part_w (⟨(max vz.a 0), (min vz.b 20000)⟩ : Sp) vat e.Len _ rfl) rfl rfl rfl rfl rfl rfl rfl ?_
    refine go_run' ttok 1 rfl ?_
    refine go_nil (fun _ => by kernel_rfl) ?_
    refine then_norm (awp_seq (awp_seq (awp_go hmix (go_run' ttok 2 rfl (go_nil nd (then_norm ?_))))))
    refine awp_cond (b := (decide (0 < (r11_part_g (⟨(max vz.a 0), (min vz.b 20000)⟩ : Sp) vat e.Len)))) rfl (fun c10 => ?_) (fun c10 => ?_)
    ·replace hz6 := of_bif_t hz6 c10
     refine awp_go hmix (go_run' ttok 4 rfl ?_)
     obtain ⟨e1, hv11, hz6⟩ := of_obind hz6
     refine go_indexT encTSlice l i e1 hv11 ttok rfl rfl rfl rfl rfl rfl rfl rfl rfl ?_
     refine go_run' ttok 4 rfl ?_
     obtain ⟨l1, hv12, hz6⟩ := of_obind hz6
     refine go_appT encTSlice out1 ([(⟨(r11_part_g (⟨(max vz.a 0), (min vz.b 20000)⟩ : Sp) vat e.Len), e1.Sec⟩ : TSlice)]) l1 hv12 (fun _ => rfl) (by first | rfl | (simp [setI]; done) | omega | (dsimp only; omega) | (simp [setI]; omega)) (by first | rfl | (simp [setI]; done) | omega | (dsimp only; omega) | (simp [setI]; omega)) ttok rfl rfl rfl rfl rfl rfl rfl rfl rfl rfl rfl rfl rfl rfl rfl rfl rfl ?_
     refine go_run' ttok 1 rfl (go_nil nd (then_norm (awp_go hmix (go_run' ttok 3 rfl ?_))))
     obtain ⟨e2, hv13, hz6⟩ := of_obind hz6
     refine go_indexT encTSlice l i e2 hv13 ttok rfl rfl rfl rfl rfl rfl rfl rfl rfl ?_
     refine go_run' ttok 4 rfl (go_nil nd (block_norm (then_norm (awp_go hmix (go_run' ttok 3 rfl (go_nil nd ?_))))))
     have e14 := of_some hz6
     subst e14
     refine then_norm ⟨rfl, (l1, (W64 (vat + e2.Len)), (W64 (i + 1))), [(5, some 44), (3, some 3)], ⟨rfl, rfl, rfl, rfl, rfl, ⟨⟨rfl, rfl, (by first | rfl | (simp [setI]; done) | omega | (dsimp only; omega) | (simp [setI]; omega))⟩, wkP_id _ rfl, wkP_id _ rfl, trivial⟩, ⟨⟨_, rfl, rfl, rfl, wkX_map (enc := encTSlice) l1 (fun _ => rfl)⟩, trivial⟩⟩, hk7⟩
    ·replace hz6 := of_bif_f hz6 c10
     refine awp_skip (then_norm (awp_go hmix (go_run' ttok 3 rfl ?_)))
     obtain ⟨e3, hv15, hz6⟩ := of_obind hz6
     refine go_indexT encTSlice l i e3 hv15 ttok rfl rfl rfl rfl rfl rfl rfl rfl rfl ?_
     refine go_run' ttok 4 rfl (go_nil nd (block_norm (then_norm (awp_go hmix (go_run' ttok 3 rfl (go_nil nd ?_))))))
     have e16 := of_some hz6
     subst e16
     refine then_norm ⟨rfl, (out1, (W64 (vat + e3.Len)), (W64 (i + 1))), [(5, some 5), (3, some 3)], ⟨rfl, rfl, rfl, rfl, rfl, ⟨⟨rfl, rfl, (by first | rfl | (simp [setI]; done) | omega | (dsimp only; omega) | (simp [setI]; omega))⟩, wkP_id _ rfl, wkP_id _ rfl, trivial⟩, ⟨⟨_, rfl, rfl, rfl, wkX_map (enc := encTSlice) out1 (fun _ => rfl)⟩, trivial⟩⟩, hk7⟩
   ·replace hz6 := of_bif_f hz6 c8
    refine awp_exit (then_exit ?_)
    obtain ⟨t, hn17, hq⟩ := of_mapr' hz6
    subst hq
    have hq : t = _ := hk7
    subst hq
    refine then_exit (block_here ?_)
    have e18 := of_some hn17
    refine then_norm ⟨rfl, out1, [(5, some 5)], ⟨rfl, rfl, rfl, rfl, rfl, ⟨⟨rfl, rfl, (by first | rfl | (simp [setI]; done) | omega | (dsimp only; omega) | (simp [setI]; omega))⟩, trivial⟩, ⟨⟨_, rfl, rfl, rfl, wkX_map (enc := encTSlice) out1 (fun _ => rfl)⟩, trivial⟩⟩, e18⟩
  ·intro out hw5
   subst hw5
   refine awp_seq (awp_go hmix (go_run' ttok 2 rfl (go_nil nd (then_norm ?_))))
   refine awp_freezeM [] [] [(5, some ⟨82, 3, out.map encTSlice⟩)] [] [(4, (encL encTSlice out))] [] rfl rfl rfl rfl rfl ⟨rfl, by decide, trivial⟩ ⟨(wkP_lend rfl (by first | rfl | (simp [setI]; done) | omega | (dsimp only; omega) | (simp [setI]; omega)) (fun _ => rfl)), trivial⟩ trivial ?_
   refine awp_ret ?_
   have e19 := of_some h
   subst e19
   refine ret_ret ?_
   refine fin0 ttok rfl rfl ?_
   exact (wkP_refl _ rfl)
noncomputable def r20_wane_s1 (b : Bx) (cv : (List TSlice)) (most1 : Int) (i : Int) : Option ((Int × Int) ⊕ Int) :=
 (bif (decide (i < ((cv.length : Nat) : Int))) then (Option.bind (getI cv i) (fun e => (Option.bind (r10_Within_g e.Sec (⟨b.x, b.y⟩ : TRect)) (fun wv => (bif ((W64 ((W64 (b.x.b - b.x.a)) * (W64 (b.y.b - b.y.a)))) != 0) then some (Sum.inl ((max most1 (W64 (Int.tdiv (W64 ((W64 ((W64 (1000 * (W64 ((W64 ((W64 (b.x.b - b.x.a)) * (W64 (b.y.b - b.y.a)))) - wv)))) + (W64 ((W64 (b.x.b - b.x.a)) * (W64 (b.y.b - b.y.a)))))) - 1)) (W64 ((W64 (b.x.b - b.x.a)) * (W64 (b.y.b - b.y.a))))))), (W64 (i + 1)))) else none))))) else some (Sum.inr most1))
noncomputable def r20_wane_g (l : (List TSlice)) (b : Bx) : Option Int :=
 (Option.bind (r11_Cut_g l b.z) (fun cv => (Option.bind ((loopO (fun q => r20_wane_s1 b cv q.1 q.2) (0, 0)) : Option Int) (fun most => some most))))
theorem r20_wane_w (l : (List TSlice)) (b : Bx) (r : Int) (h : r20_wane_g l b = some r) : Holds Tryz.prog 101 [((encL encTSlice) l), (encBx b)] [] (I r) [] := by
 unfold r20_wane_g at h
 refine holds_fn Tryz.func101 rfl Tryz.ntmps101 rfl rfl rfl (fun lim => ?_)
 refine awp_seq (awp_go hmix (go_run' ttok 2 rfl (go_nil nd (then_norm (awp_seq (awp_go hmix (go_run' ttok 3 rfl ?_)))))))
 obtain ⟨cv, hv1, h⟩ := of_obind h
 refine go_call fn153 (r11_Cut_w l b.z cv hv1) rfl rfl rfl rfl rfl rfl rfl ?_
 refine go_run' ttok 1 rfl (go_nil nd (then_norm (awp_seq (awp_go hmix (go_run' ttok 16 rfl (go_nil nd (then_norm (awp_seq (awp_go hmix (go_run' ttok 1 rfl (go_nil nd (then_norm ?_))))))))))))
 obtain ⟨y, hx2, h⟩ := of_obind h
 refine awp_seqJ (X := Int) [] [] (fun w => [(7, (I w))]) (fun w => []) (fun w => w = y) rfl rfl ?_ ?_
 ·skip
  refine awp_seq (awp_go hmix (go_run' ttok 1 rfl (go_nil nd (then_norm (awp_block ?_)))))
  refine awp_loopD (X := (Int × Int)) (Y := Int) [3, 5, 6] [3] (fun q => [(7, (I q.1)), (8, (I q.2))]) (fun q => []) (fun q => r20_wane_s1 b cv q.1 q.2) (0, 0) [(3, some 3)] hx2 ⟨rfl, rfl, rfl, rfl, rfl, ⟨wkP_id _ rfl, wkP_id _ rfl, trivial⟩, trivial⟩ (fun x vR vz hz4 hk5 => ?_)
  obtain ⟨most1, i⟩ := x
  change r20_wane_s1 b cv most1 i = _ at hz4
  unfold r20_wane_s1 at hz4
  refine awp_seq (awp_seq (awp_go hmix (go_run' ttok 2 rfl ?_)))
  refine go_lenT encTSlice cv ttok rfl rfl rfl rfl rfl rfl ?_
  refine go_run' ttok 1 rfl (go_nil nd (then_norm ?_))
  refine awp_cond (b := (decide (i < ((cv.length : Nat) : Int)))) rfl (fun c6 => ?_) (fun c6 => ?_)
  ·replace hz4 := of_bif_t hz4 c6
   refine awp_skip (then_norm (awp_seq (awp_block (awp_seq (awp_go hmix (go_run' ttok 2 rfl ?_))))))
   obtain ⟨e, hv7, hz4⟩ := of_obind hz4
   refine go_indexT encTSlice cv i e hv7 ttok rfl rfl rfl rfl rfl rfl rfl rfl rfl ?_
   refine go_run' ttok 7 rfl ?_
   obtain ⟨wv, hv8, hz4⟩ := of_obind hz4
   refine go_call fn95 (r10_Within_w e.Sec (⟨b.x, b.y⟩ : TRect) wv hv8) rfl rfl rfl rfl rfl rfl rfl ?_
   refine go_run' ttok 1 rfl ?_
   refine go_nil (fun _ => by kernel_rfl) ?_
   refine then_norm (awp_go hmix (go_run' ttok 9 rfl ?_))
   obtain ⟨hd9, hz4⟩ := of_grd hz4
   refine go_quoT (W64 ((W64 ((W64 (1000 * (W64 ((W64 ((W64 (b.x.b - b.x.a)) * (W64 (b.y.b - b.y.a)))) - wv)))) + (W64 ((W64 (b.x.b - b.x.a)) * (W64 (b.y.b - b.y.a)))))) - 1)) (W64 ((W64 (b.x.b - b.x.a)) * (W64 (b.y.b - b.y.a)))) hd9 rfl rfl rfl rfl rfl ?_
   refine go_run' ttok 2 rfl (go_nil nd (block_norm (then_norm (awp_go hmix (go_run' ttok 3 rfl (go_nil nd ?_))))))
   have e10 := of_some hz4
   subst e10
   refine then_norm ⟨rfl, ((max most1 (W64 (Int.tdiv (W64 ((W64 ((W64 (1000 * (W64 ((W64 ((W64 (b.x.b - b.x.a)) * (W64 (b.y.b - b.y.a)))) - wv)))) + (W64 ((W64 (b.x.b - b.x.a)) * (W64 (b.y.b - b.y.a)))))) - 1)) (W64 ((W64 (b.x.b - b.x.a)) * (W64 (b.y.b - b.y.a))))))), (W64 (i + 1))), [(3, some 3)], ⟨rfl, rfl, rfl, rfl, rfl, ⟨wkP_id _ rfl, wkP_id _ rfl, trivial⟩, trivial⟩, hk5⟩
  ·replace hz4 := of_bif_f hz4 c6
   refine awp_exit (then_exit ?_)
   obtain ⟨t, hn11, hq⟩ := of_mapr' hz4
   subst hq
   have hq : t = _ := hk5
   subst hq
   refine then_exit (block_here ?_)
   have e12 := of_some hn11
   refine then_norm ⟨rfl, most1, [], ⟨rfl, rfl, rfl, rfl, rfl, ⟨wkP_id _ rfl, trivial⟩, trivial⟩, e12⟩
 ·intro most hw3
  subst hw3
  refine awp_seq (awp_go hmix (go_run' ttok 2 rfl (go_nil nd (then_norm (awp_ret ?_)))))
  have e13 := of_some h
  subst e13
  refine ret_ret ?_
  refine fin0 ttok rfl rfl ?_
  exact (wkP_refl _ rfl)
noncomputable def r20_Wane_g (l : (List TSlice)) (b : Bx) : Option Int :=
 (Option.bind (r20_within_g l b) (fun wv => (bif (!wv) then some 1000 else (Option.bind (r20_wane_g l b) (fun wv1 => some wv1)))))
theorem r20_Wane_w (l : (List TSlice)) (b : Bx) (r : Int) (h : r20_Wane_g l b = some r) : Holds Tryz.prog 49 [((encL encTSlice) l), (encBx b)] [] (I r) [] := by
 unfold r20_Wane_g at h
 refine holds_fn Tryz.func49 rfl Tryz.ntmps49 rfl rfl rfl (fun lim => ?_)
 refine awp_seq (awp_go hmix (go_run' ttok 2 rfl (go_nil nd (then_norm (awp_seq (awp_seq (awp_go hmix (go_run' ttok 2 rfl ?_))))))))
 obtain ⟨wv, hv1, h⟩ := of_obind h
 refine go_call fn100 (r20_within_w l b wv hv1) rfl rfl rfl rfl rfl rfl rfl ?_
 refine go_run' ttok 1 rfl (go_nil nd (then_norm ?_))
 refine awp_cond (b := (!wv)) rfl (fun c2 => ?_) (fun c2 => ?_)
 ·replace h := of_bif_t h c2
  refine awp_seq (awp_go hmix (go_run' ttok 1 rfl (go_nil nd (then_norm (awp_ret (then_ret ?_))))))
  have e3 := of_some h
  subst e3
  refine ret_ret ?_
  refine fin0 ttok rfl rfl ?_
  exact (wkP_refl _ rfl)
 ·replace h := of_bif_f h c2
  refine awp_skip (then_norm (awp_seq (awp_go hmix (go_run' ttok 2 rfl ?_))))
  obtain ⟨wv1, hv4, h⟩ := of_obind h
  refine go_call fn101 (r20_wane_w l b wv1 hv4) rfl rfl rfl rfl rfl rfl rfl ?_
  refine go_run' ttok 1 rfl (go_nil nd (then_norm (awp_ret ?_)))
  have e5 := of_some h
  subst e5
  refine ret_ret ?_
  refine fin0 ttok rfl rfl ?_
  exact (wkP_refl _ rfl)
noncomputable def r30_New_g (vid : ByteArray) (vlog : ByteArray) (sp : TSpecies) (l : (List TSlice)) (d : (List Df)) (product : Int) (b : Bx) : Option TBoard :=
 (Option.bind (r11_Within_g l b) (fun wv => (Option.bind (r13_Clip_g d b) (fun cv => (Option.bind (r20_Wane_g l b) (fun wv1 => some (⟨vid, vlog, sp.Name, product, b, wv, cv, wv1, (⟨sp.Green, sp.Green, 0⟩ : TCell), false, 0⟩ : TBoard)))))))
theorem r30_New_w (vid : ByteArray) (vlog : ByteArray) (sp : TSpecies) (l : (List TSlice)) (d : (List Df)) (product : Int) (b : Bx) (r : TBoard) (h : r30_New_g vid vlog sp l d product b = some r) : Holds Tryz.prog 15 [(S vid), (S vlog), (encTSpecies sp), ((encL encTSlice) l), ((encL encDf) d), (I product), (encBx b)] [] (encTBoard r) [] := by
 unfold r30_New_g at h
 refine holds_fn Tryz.func15 rfl Tryz.ntmps15 rfl rfl rfl (fun lim => ?_)
 refine awp_seq (awp_go hmix (go_run' ttok 3 rfl (go_nil nd (then_norm (awp_seq (awp_go hmix (go_run' ttok 8 rfl ?_)))))))
 obtain ⟨wv, hv1, h⟩ := of_obind h
 refine go_call fn47 (r11_Within_w l b wv hv1) rfl rfl rfl rfl rfl rfl rfl ?_
 refine go_run' ttok 2 rfl ?_
 obtain ⟨cv, hv2, h⟩ := of_obind h
 refine go_call fn48 (r13_Clip_w d b cv hv2) rfl rfl rfl rfl rfl rfl rfl ?_
 refine go_run' ttok 2 rfl ?_
 obtain ⟨wv1, hv3, h⟩ := of_obind h
 refine go_call fn49 (r20_Wane_w l b wv1 hv3) rfl rfl rfl rfl rfl rfl rfl ?_
 refine go_run' ttok 7 rfl ?_
 refine go_nil (fun _ => by kernel_rfl) ?_
 refine then_norm (awp_ret ?_)
 have e4 := of_some h
 subst e4
 refine ret_ret ?_
 refine fin0 ttok rfl rfl ?_
 exact (wkP_refl _ rfl)
noncomputable def r13_Same_s1 (a : (List Df)) (b : (List Df)) (i : Int) : Option (Int ⊕ (Bool ⊕ Unit)) :=
 (bif (decide (i < ((a.length : Nat) : Int))) then (Option.bind (getI a i) (fun e => (Option.bind (getI b i) (fun e1 => (bif (!(eqV encDf e e1)) then some (Sum.inr (Sum.inl false)) else some (Sum.inl (W64 (i + 1)))))))) else some (Sum.inr (Sum.inr ())))
noncomputable def r13_Same_g (a : (List Df)) (b : (List Df)) : Option Bool :=
 (bif (((a.length : Nat) : Int) != ((b.length : Nat) : Int)) then some false else (Option.bind ((loopO (fun q => r13_Same_s1 a b q) 0) : Option (Bool ⊕ Unit)) (Sum.elim (fun q => some q) (fun _ => some true))))
theorem r13_Same_w (a : (List Df)) (b : (List Df)) (r : Bool) (h : r13_Same_g a b = some r) : Holds Tryz.prog 92 [((encL encDf) a), ((encL encDf) b)] [] (B r) [] := by
 unfold r13_Same_g at h
 refine holds_fn Tryz.func92 rfl Tryz.ntmps92 rfl rfl rfl (fun lim => ?_)
 refine awp_seq (awp_go hmix (go_run' ttok 1 rfl (go_nil nd (then_norm (awp_seq (awp_seq (awp_go hmix (go_run' ttok 1 rfl ?_))))))))
 refine go_lenT encDf a ttok rfl rfl rfl rfl rfl rfl ?_
 refine go_run' ttok 1 rfl ?_
 refine go_lenT encDf b ttok rfl rfl rfl rfl rfl rfl ?_
 refine go_run' ttok 1 rfl (go_nil nd (then_norm ?_))
 refine awp_cond (b := (((a.length : Nat) : Int) != ((b.length : Nat) : Int))) rfl (fun c1 => ?_) (fun c1 => ?_)
 ·replace h := of_bif_t h c1
  refine awp_seq (awp_go hmix (go_run' ttok 1 rfl (go_nil nd (then_norm (awp_ret (then_ret ?_))))))
  have e2 := of_some h
  subst e2
  refine ret_ret ?_
  refine fin0 ttok rfl rfl ?_
  exact (wkP_refl _ rfl)
 ·replace h := of_bif_f h c1
  refine awp_skip (then_norm ?_)
  obtain ⟨y, hx3, h⟩ := of_obind h
  refine awp_seqJ (X := Unit) [] [] (fun _ => []) (fun _ => []) (fun w => Sum.inr w = y) rfl rfl ?_ ?_
  ·skip
   refine awp_seq (awp_go hmix (go_run' ttok 1 rfl (go_nil nd (then_norm (awp_block ?_)))))
   refine awp_loopD (X := Int) (Y := (Bool ⊕ Unit)) [0, 1] [] (fun q => [(5, (I q))]) (fun q => []) (fun q => r13_Same_s1 a b q) 0 [] hx3 ⟨rfl, rfl, rfl, rfl, rfl, ⟨wkP_id _ rfl, trivial⟩, trivial⟩ (fun i vR vz hz5 hk6 => ?_)
   change r13_Same_s1 a b i = _ at hz5
   unfold r13_Same_s1 at hz5
   refine awp_seq (awp_seq (awp_go hmix (go_run' ttok 2 rfl ?_)))
   refine go_lenT encDf a ttok rfl rfl rfl rfl rfl rfl ?_
   refine go_run' ttok 1 rfl (go_nil nd (then_norm ?_))
   refine awp_cond (b := (decide (i < ((a.length : Nat) : Int)))) rfl (fun c7 => ?_) (fun c7 => ?_)
   ·replace hz5 := of_bif_t hz5 c7
    refine awp_skip (then_norm (awp_seq (awp_block (awp_seq (awp_go hmix (go_run' ttok 2 rfl ?_))))))
    obtain ⟨e, hv8, hz5⟩ := of_obind hz5
    refine go_indexT encDf a i e hv8 ttok rfl rfl rfl rfl rfl rfl rfl rfl rfl ?_
    refine go_run' ttok 3 rfl ?_
    obtain ⟨e1, hv9, hz5⟩ := of_obind hz5
    refine go_indexT encDf b i e1 hv9 ttok rfl rfl rfl rfl rfl rfl rfl rfl rfl ?_
    refine go_run' ttok 1 rfl ?_
    refine go_step rfl (as_neAgg shDf rfl eqT71_1 eqT71_2 (by decide) rfl rfl rfl rfl rfl) rfl rfl rfl ?_
    refine go_nil (fun _ => by kernel_rfl) ?_
    refine then_norm ?_
    refine awp_cond (b := (!(eqV encDf e e1))) rfl (fun c10 => ?_) (fun c10 => ?_)
    ·replace hz5 := of_bif_t hz5 c10
     refine awp_seq (awp_go hmix (go_run' ttok 1 rfl (go_nil nd (then_norm (awp_ret (block_ret (then_ret ?_)))))))
     obtain ⟨t, hn11, hq⟩ := of_mapr' hz5
     subst hq
     have hq : t = _ := hk6
     subst hq
     refine then_ret (block_ret ?_)
     obtain ⟨t1, hn12, hq⟩ := of_mapl' hn11
     subst hq
     have hq := of_inl h
     replace hq := of_some hq
     subst hq
     refine then_ret ?_
     have e13 := of_some hn12
     subst e13
     refine ret_ret ?_
     refine fin0 ttok rfl rfl ?_
     exact (wkP_refl _ rfl)
    ·replace hz5 := of_bif_f hz5 c10
     refine awp_skip (block_norm (then_norm (awp_go hmix (go_run' ttok 3 rfl (go_nil nd ?_)))))
     have e14 := of_some hz5
     subst e14
     refine then_norm ⟨rfl, (W64 (i + 1)), [], ⟨rfl, rfl, rfl, rfl, rfl, ⟨wkP_id _ rfl, trivial⟩, trivial⟩, hk6⟩
   ·replace hz5 := of_bif_f hz5 c7
    refine awp_exit (then_exit ?_)
    obtain ⟨t2, hn15, hq⟩ := of_mapr' hz5
    subst hq
    have hq : t2 = _ := hk6
    subst hq
    refine then_exit (block_here ?_)
    have e16 := of_some hn15
    refine then_norm ⟨rfl, (), [], ⟨rfl, rfl, rfl, rfl, rfl, trivial, trivial⟩, e16⟩
  ·intro w hw4
   subst hw4
   replace h := of_inr h
   refine awp_seq (awp_go hmix (go_run' ttok 1 rfl (go_nil nd (then_norm (awp_ret ?_)))))
   have e17 := of_some h
   subst e17
   refine ret_ret ?_
   refine fin0 ttok rfl rfl ?_
   exact (wkP_refl _ rfl)
noncomputable def r26_SameBoard_g (a : TBoard) (b : TBoard) : Option Bool :=
 (bif (bEq a.Id b.Id) then (bif (bEq a.Log b.Log) then (bif (bEq a.Species b.Species) then (bif (a.Product == b.Product) then (bif (eqV encBx a.Box b.Box) then (bif (a.Volume == b.Volume) then (Option.bind (r13_Same_g a.Defects b.Defects) (fun sv => (bif sv then (bif (a.Wane == b.Wane) then (bif (eqV encTCell a.Cell b.Cell) then (bif (a.Dried == b.Dried) then some (a.Grade == b.Grade) else some false) else some false) else some false) else some false))) else some false) else some false) else some false) else some false) else some false) else some false)
theorem r26_SameBoard_w (a : TBoard) (b : TBoard) (r : Bool) (h : r26_SameBoard_g a b = some r) : Holds Tryz.prog 46 [(encTBoard a), (encTBoard b)] [] (B r) [] := by
 unfold r26_SameBoard_g at h
 refine holds_fn Tryz.func46 rfl Tryz.ntmps46 rfl rfl rfl (fun lim => ?_)
 refine awp_seq (awp_go hmix (go_run' ttok 3 rfl (go_nil nd (then_norm (awp_seq (awp_go hmix (go_run' ttok 4 rfl ?_)))))))
 refine go_eqlS a.Id b.Id rfl rfl rfl rfl rfl ?_
 refine go_run' ttok 1 rfl ?_
 refine go_gcase rfl rfl rfl (fun g1 => ?_) (fun g1 => ?_)
 ·rw [g1]
  replace h := of_bif_t h g1
  refine go_run' ttok 4 rfl ?_
  refine go_eqlS a.Log b.Log rfl rfl rfl rfl rfl ?_
  refine go_run' ttok 2 rfl ?_
  refine go_gcase rfl rfl rfl (fun g2 => ?_) (fun g2 => ?_)
  ·rw [g2]
   replace h := of_bif_t h g2
   refine go_run' ttok 4 rfl ?_
   refine go_eqlS a.Species b.Species rfl rfl rfl rfl rfl ?_
   refine go_run' ttok 2 rfl ?_
   refine go_gcase rfl rfl rfl (fun g3 => ?_) (fun g3 => ?_)
   ·rw [g3]
    replace h := of_bif_t h g3
    refine go_run' ttok 7 rfl ?_
    refine go_gcase rfl rfl rfl (fun g4 => ?_) (fun g4 => ?_)
    ·rw [g4]
     replace h := of_bif_t h g4
     refine go_run' ttok 4 rfl ?_
     refine go_step rfl (as_eqAgg shBx rfl eqT25_1 eqT25_2 (by decide) rfl rfl rfl rfl rfl) rfl rfl rfl ?_
     refine go_run' ttok 2 rfl ?_
     refine go_gcase rfl rfl rfl (fun g5 => ?_) (fun g5 => ?_)
     ·rw [g5]
      replace h := of_bif_t h g5
      refine go_run' ttok 7 rfl ?_
      refine go_gcase rfl rfl rfl (fun g6 => ?_) (fun g6 => ?_)
      ·rw [g6]
       replace h := of_bif_t h g6
       refine go_run' ttok 4 rfl ?_
       obtain ⟨sv, hv7, h⟩ := of_obind h
       refine go_call fn92 (r13_Same_w a.Defects b.Defects sv hv7) rfl rfl rfl rfl rfl rfl rfl ?_
       refine go_run' ttok 2 rfl ?_
       refine go_gcase rfl rfl rfl (fun g8 => ?_) (fun g8 => ?_)
       ·rw [g8]
        replace h := of_bif_t h g8
        refine go_run' ttok 7 rfl ?_
        refine go_gcase rfl rfl rfl (fun g9 => ?_) (fun g9 => ?_)
        ·rw [g9]
         replace h := of_bif_t h g9
         refine go_run' ttok 4 rfl ?_
         refine go_step rfl (as_eqAgg shTCell rfl eqT28_1 eqT28_2 (by decide) rfl rfl rfl rfl rfl) rfl rfl rfl ?_
         refine go_run' ttok 2 rfl ?_
         refine go_gcase rfl rfl rfl (fun g10 => ?_) (fun g10 => ?_)
         ·rw [g10]
          replace h := of_bif_t h g10
          refine go_run' ttok 4 rfl ?_
          refine go_step rfl (as_eqBool rfl (ttok _ _ rfl) rfl rfl rfl) rfl rfl rfl ?_
          refine go_run' ttok 2 rfl ?_
          refine go_gcase rfl rfl rfl (fun g11 => ?_) (fun g11 => ?_)
          ·rw [g11]
           replace h := of_bif_t h g11
           refine go_run' ttok 7 rfl (go_nil nd (then_norm (awp_ret ?_)))
           have e12 := of_some h
           subst e12
           refine ret_ret ?_
           refine fin0 ttok rfl rfl ?_
           exact (wkP_refl _ rfl)
          ·rw [g11]
           replace h := of_bif_f h g11
           refine go_run' ttok 7 rfl (go_nil nd (then_norm (awp_ret ?_)))
           have e13 := of_some h
           subst e13
           refine ret_ret ?_
           refine fin0 ttok rfl rfl ?_
           exact (wkP_refl _ rfl)
         ·rw [g10]
          replace h := of_bif_f h g10
          refine go_run' ttok 14 rfl (go_nil nd (then_norm (awp_ret ?_)))
          have e14 := of_some h
          subst e14
          refine ret_ret ?_
          refine fin0 ttok rfl rfl ?_
          exact (wkP_refl _ rfl)
        ·rw [g9]
         replace h := of_bif_f h g9
         refine go_run' ttok 21 rfl (go_nil nd (then_norm (awp_ret ?_)))
         have e15 := of_some h
         subst e15
         refine ret_ret ?_
         refine fin0 ttok rfl rfl ?_
         exact (wkP_refl _ rfl)
       ·rw [g8]
        replace h := of_bif_f h g8
        refine go_run' ttok 28 rfl (go_nil nd (then_norm (awp_ret ?_)))
        have e16 := of_some h
        subst e16
        refine ret_ret ?_
        refine fin0 ttok rfl rfl ?_
        exact (wkP_refl _ rfl)
      ·rw [g6]
       replace h := of_bif_f h g6
       refine go_run' ttok 35 rfl (go_nil nd (then_norm (awp_ret ?_)))
       have e17 := of_some h
       subst e17
       refine ret_ret ?_
       refine fin0 ttok rfl rfl ?_
       exact (wkP_refl _ rfl)
     ·rw [g5]
      replace h := of_bif_f h g5
      refine go_run' ttok 42 rfl (go_nil nd (then_norm (awp_ret ?_)))
      have e18 := of_some h
      subst e18
      refine ret_ret ?_
      refine fin0 ttok rfl rfl ?_
      exact (wkP_refl _ rfl)
    ·rw [g4]
     replace h := of_bif_f h g4
     refine go_run' ttok 49 rfl (go_nil nd (then_norm (awp_ret ?_)))
     have e19 := of_some h
     subst e19
     refine ret_ret ?_
     refine fin0 ttok rfl rfl ?_
     exact (wkP_refl _ rfl)
   ·rw [g3]
    replace h := of_bif_f h g3
    refine go_run' ttok 56 rfl (go_nil nd (then_norm (awp_ret ?_)))
    have e20 := of_some h
    subst e20
    refine ret_ret ?_
    refine fin0 ttok rfl rfl ?_
    exact (wkP_refl _ rfl)
  ·rw [g2]
   replace h := of_bif_f h g2
   refine go_run' ttok 63 rfl (go_nil nd (then_norm (awp_ret ?_)))
   have e21 := of_some h
   subst e21
   refine ret_ret ?_
   refine fin0 ttok rfl rfl ?_
   exact (wkP_refl _ rfl)
 ·rw [g1]
  replace h := of_bif_f h g1
  refine go_run' ttok 70 rfl (go_nil nd (then_norm (awp_ret ?_)))
  have e22 := of_some h
  subst e22
  refine ret_ret ?_
  refine fin0 ttok rfl rfl ?_
  exact (wkP_refl _ rfl)
noncomputable def r30_Same_g (a : TBoard) (b : TBoard) : Option Bool :=
 (Option.bind (r26_SameBoard_g a b) (fun sv => some sv))
theorem r30_Same_w (a : TBoard) (b : TBoard) (r : Bool) (h : r30_Same_g a b = some r) : Holds Tryz.prog 13 [(encTBoard a), (encTBoard b)] [] (B r) [] := by
 unfold r30_Same_g at h
 refine holds_fn Tryz.func13 rfl Tryz.ntmps13 rfl rfl rfl (fun lim => ?_)
 refine awp_seq (awp_go hmix (go_run' ttok 3 rfl (go_nil nd (then_norm (awp_seq (awp_go hmix (go_run' ttok 2 rfl ?_)))))))
 obtain ⟨sv, hv1, h⟩ := of_obind h
 refine go_call fn46 (r26_SameBoard_w a b sv hv1) rfl rfl rfl rfl rfl rfl rfl ?_
 refine go_run' ttok 1 rfl (go_nil nd (then_norm (awp_ret ?_)))
 have e2 := of_some h
 subst e2
 refine ret_ret ?_
 refine fin0 ttok rfl rfl ?_
 exact (wkP_refl _ rfl)
end Go.Proofs.YtpoehckffpbfiaaGreat
