/- A1e: what functions of the program compute (written by mod.py). -/
import Derived.Test.YtpoehckffpbfiaaGreatXAA1d
import Derived.KernelRfl
namespace Go.Proofs.YtpoehckffpbfiaaGreat
open Go Go.Ab
set_option linter.unusedSimpArgs false
set_option linter.unusedVariables false
set_option linter.unusedSectionVars false
set_option maxRecDepth 20000
set_option maxHeartbeats 1000000
noncomputable def board_Same_g (a : TBoard) (b : TBoard) : Option Bool :=
 (bif (bEq a.Id b.Id) then (bif (bEq a.Log b.Log) then (bif (bEq a.Species b.Species) then (bif (a.Product == b.Product) then (bif (eqV encBx a.Box b.Box) then (bif (a.Volume == b.Volume) then (Option.bind (api_Defect__g a.Defects b.Defects) (fun dv => (bif dv then (bif (a.Wane == b.Wane) then (bif (eqV encTCell a.Cell b.Cell) then (bif (a.Dried == b.Dried) then some (a.Grade == b.Grade) else some false) else some false) else some false) else some false))) else some false) else some false) else some false) else some false) else some false) else some false)
theorem board_Same_w (a : TBoard) (b : TBoard) (r : Bool) (h : board_Same_g a b = some r) : Holds Tryz.prog 44 [(encTBoard a), (encTBoard b)] [] (B r) [] := by
 unfold board_Same_g at h
 refine holds_fn Tryz.func44 rfl Tryz.ntmps44 rfl rfl rfl (fun lim => ?_)
 refine awp_seq (awp_go hmix (go_run' ttok 3 rfl (go_nil nd (then_norm (awp_seq (awp_go hmix (go_run' ttok 4 rfl ?_)))))))
 refine go_eqlS a.Id b.Id rfl rfl rfl rfl rfl ?_
 refine go_run' ttok 1 rfl ?_
 refine go_gcase rfl rfl rfl (fun g1 => ?_) (fun g1 => ?_)
 ·rw [g1]
  replace h := of_bif_t h g1
  refine go_run' ttok 4 rfl ?_
  refine go_eqlS a.Log b.Log rfl rfl rfl rfl rfl ?_
  refine go_run' ttok 2 rfl ?_
  refine go_gcase rfl rfl rfl (fun g2 => ?_) (fun g2 => ?_)
  ·rw [g2]
   replace h := of_bif_t h g2
   refine go_run' ttok 4 rfl ?_
   refine go_eqlS a.Species b.Species rfl rfl rfl rfl rfl ?_
   refine go_run' ttok 2 rfl ?_
   refine go_gcase rfl rfl rfl (fun g3 => ?_) (fun g3 => ?_)
   ·rw [g3]
    replace h := of_bif_t h g3
    refine go_run' ttok 7 rfl ?_
    refine go_gcase rfl rfl rfl (fun g4 => ?_) (fun g4 => ?_)
    ·rw [g4]
     replace h := of_bif_t h g4
     refine go_run' ttok 4 rfl ?_
     refine go_step rfl (as_eqAgg shBx rfl eqT25_1 eqT25_2 (by decide) rfl rfl rfl rfl rfl) rfl rfl rfl ?_
     refine go_run' ttok 2 rfl ?_
     refine go_gcase rfl rfl rfl (fun g5 => ?_) (fun g5 => ?_)
     ·rw [g5]
      replace h := of_bif_t h g5
      refine go_run' ttok 7 rfl ?_
      refine go_gcase rfl rfl rfl (fun g6 => ?_) (fun g6 => ?_)
      ·rw [g6]
       replace h := of_bif_t h g6
       refine go_run' ttok 4 rfl ?_
       obtain ⟨dv, hv7, h⟩ := of_obind h
       refine go_call fn91 (api_Defect__w a.Defects b.Defects dv hv7) rfl rfl rfl rfl rfl rfl rfl ?_
       refine go_run' ttok 2 rfl ?_
       refine go_gcase rfl rfl rfl (fun g8 => ?_) (fun g8 => ?_)
       ·rw [g8]
        replace h := of_bif_t h g8
        refine go_run' ttok 7 rfl ?_
        refine go_gcase rfl rfl rfl (fun g9 => ?_) (fun g9 => ?_)
        ·rw [g9]
         replace h := of_bif_t h g9
         refine go_run' ttok 4 rfl ?_
         refine go_step rfl (as_eqAgg shTCell rfl eqT28_1 eqT28_2 (by decide) rfl rfl rfl rfl rfl) rfl rfl rfl ?_
         refine go_run' ttok 2 rfl ?_
         refine go_gcase rfl rfl rfl (fun g10 => ?_) (fun g10 => ?_)
         ·rw [g10]
          replace h := of_bif_t h g10
          refine go_run' ttok 4 rfl ?_
          refine go_step rfl (as_eqBool rfl (ttok _ _ rfl) rfl rfl rfl) rfl rfl rfl ?_
          refine go_run' ttok 2 rfl ?_
          refine go_gcase rfl rfl rfl (fun g11 => ?_) (fun g11 => ?_)
          ·rw [g11]
           replace h := of_bif_t h g11
           refine go_run' ttok 7 rfl (go_nil nd (then_norm (awp_ret ?_)))
           have e12 := of_some h
           subst e12
           refine ret_ret ?_
           refine fin0 ttok rfl rfl ?_
           exact (wkP_refl _ rfl)
          ·rw [g11]
           replace h := of_bif_f h g11
           refine go_run' ttok 7 rfl (go_nil nd (then_norm (awp_ret ?_)))
           have e13 := of_some h
           subst e13
           refine ret_ret ?_
           refine fin0 ttok rfl rfl ?_
           exact (wkP_refl _ rfl)
         ·rw [g10]
          replace h := of_bif_f h g10
          refine go_run' ttok 14 rfl (go_nil nd (then_norm (awp_ret ?_)))
          have e14 := of_some h
          subst e14
          refine ret_ret ?_
          refine fin0 ttok rfl rfl ?_
          exact (wkP_refl _ rfl)
        ·rw [g9]
         replace h := of_bif_f h g9
         refine go_run' ttok 21 rfl (go_nil nd (then_norm (awp_ret ?_)))
         have e15 := of_some h
         subst e15
         refine ret_ret ?_
         refine fin0 ttok rfl rfl ?_
         exact (wkP_refl _ rfl)
       ·rw [g8]
        replace h := of_bif_f h g8
        refine go_run' ttok 28 rfl (go_nil nd (then_norm (awp_ret ?_)))
        have e16 := of_some h
        subst e16
        refine ret_ret ?_
        refine fin0 ttok rfl rfl ?_
        exact (wkP_refl _ rfl)
      ·rw [g6]
       replace h := of_bif_f h g6
       refine go_run' ttok 35 rfl (go_nil nd (then_norm (awp_ret ?_)))
       have e17 := of_some h
       subst e17
       refine ret_ret ?_
       refine fin0 ttok rfl rfl ?_
       exact (wkP_refl _ rfl)
     ·rw [g5]
      replace h := of_bif_f h g5
      refine go_run' ttok 42 rfl (go_nil nd (then_norm (awp_ret ?_)))
      have e18 := of_some h
      subst e18
      refine ret_ret ?_
      refine fin0 ttok rfl rfl ?_
      exact (wkP_refl _ rfl)
    ·rw [g4]
     replace h := of_bif_f h g4
     refine go_run' ttok 49 rfl (go_nil nd (then_norm (awp_ret ?_)))
     have e19 := of_some h
     subst e19
     refine ret_ret ?_
     refine fin0 ttok rfl rfl ?_
     exact (wkP_refl _ rfl)
   ·rw [g3]
    replace h := of_bif_f h g3
    refine go_run' ttok 56 rfl (go_nil nd (then_norm (awp_ret ?_)))
    have e20 := of_some h
    subst e20
    refine ret_ret ?_
    refine fin0 ttok rfl rfl ?_
    exact (wkP_refl _ rfl)
  ·rw [g2]
   replace h := of_bif_f h g2
   refine go_run' ttok 63 rfl (go_nil nd (then_norm (awp_ret ?_)))
   have e21 := of_some h
   subst e21
   refine ret_ret ?_
   refine fin0 ttok rfl rfl ?_
   exact (wkP_refl _ rfl)
 ·rw [g1]
  replace h := of_bif_f h g1
  refine go_run' ttok 70 rfl (go_nil nd (then_norm (awp_ret ?_)))
  have e22 := of_some h
  subst e22
  refine ret_ret ?_
  refine fin0 ttok rfl rfl ?_
  exact (wkP_refl _ rfl)
noncomputable def board_Same_c (N : Nat) (a : TBoard) (b : TBoard) : Option Bool :=
 (bif (bEq a.Id b.Id) then (bif (bEq a.Log b.Log) then (bif (bEq a.Species b.Species) then (bif (a.Product == b.Product) then (bif (eqV encBx a.Box b.Box) then (bif (a.Volume == b.Volume) then (Option.bind ((api_Defect__c N) a.Defects b.Defects) (fun dv => (bif dv then (bif (a.Wane == b.Wane) then (bif (eqV encTCell a.Cell b.Cell) then (bif (a.Dried == b.Dried) then some (a.Grade == b.Grade) else some false) else some false) else some false) else some false))) else some false) else some false) else some false) else some false) else some false) else some false)
theorem board_Same_le (N : Nat) (a : TBoard) (b : TBoard) : OLe (board_Same_c N a b) (board_Same_g a b) := by
 unfold board_Same_c board_Same_g
 repeat' (first | exact ole_rfl | exact api_Defect__le _ _ _ | refine ole_bif ?_ ?_ | refine ole_bind ?_ (fun _ => ?_) | refine ole_let (fun _ => ?_) | refine ole_map ?_ | refine ole_elim (fun _ => ?_) (fun _ => ?_) | refine ole_loop (fun _ => ?_))
noncomputable def board_Length_g (b : TBoard) : Int :=
 (bif (!(board_isAlong_g b.Box.z)) then 0 else (board_length_g b.Box.z))
theorem board_Length_w (b : TBoard) (r : Int) (h : board_Length_g b = r) : Holds Tryz.prog 45 [(encTBoard b)] [] (I r) [] := by
 unfold board_Length_g at h
 refine holds_fn Tryz.func45 rfl Tryz.ntmps45 rfl rfl rfl (fun lim => ?_)
 refine awp_seq (awp_go hmix (go_run' ttok 2 rfl (go_nil nd (then_norm (awp_seq (awp_seq (awp_go hmix (go_run' ttok 3 rfl ?_))))))))
 refine go_call fn79 (board_isAlong_w b.Box.z _ rfl) rfl rfl rfl rfl rfl rfl rfl ?_
 refine go_run' ttok 1 rfl (go_nil nd (then_norm ?_))
 refine awp_cond (b := (!(board_isAlong_g b.Box.z))) rfl (fun c1 => ?_) (fun c1 => ?_)
 ·replace h := of_bif_t h c1
  refine awp_seq (awp_go hmix (go_run' ttok 1 rfl (go_nil nd (then_norm (awp_ret (then_ret ?_))))))
  have e2 := h
  subst e2
  refine ret_ret ?_
  refine fin0 ttok rfl rfl ?_
  exact (wkP_refl _ rfl)
 ·replace h := of_bif_f h c1
  refine awp_skip (then_norm (awp_seq (awp_go hmix (go_run' ttok 3 rfl ?_))))
  refine go_call fn27 (board_length_w b.Box.z _ rfl) rfl rfl rfl rfl rfl rfl rfl ?_
  refine go_run' ttok 1 rfl (go_nil nd (then_norm (awp_ret ?_)))
  have e3 := h
  subst e3
  refine ret_ret ?_
  refine fin0 ttok rfl rfl ?_
  exact (wkP_refl _ rfl)
noncomputable def l30_Short_s1 (x : Tsawmilllaw30_Log) (i : Int) : Option (Int ⊕ (Bool ⊕ Unit)) :=
 (bif (decide (i < ((x.Solid.length : Nat) : Int))) then (Option.bind (getI x.Solid i) (fun e => (bif (decide (130 < ((e.Sec.Rows.length : Nat) : Int))) then some (Sum.inr (Sum.inl false)) else some (Sum.inl (W64 (i + 1)))))) else some (Sum.inr (Sum.inr ())))
noncomputable def l30_Short_g (x : Tsawmilllaw30_Log) : Option Bool :=
 (bif (decide (30 < ((x.Solid.length : Nat) : Int))) then some false else (bif (decide (100 < ((x.Defects.length : Nat) : Int))) then some false else (Option.bind ((loopO (fun q => l30_Short_s1 x q) 0) : Option (Bool ⊕ Unit)) (Sum.elim (fun q => some q) (fun _ => some true)))))
theorem l30_Short_w (x : Tsawmilllaw30_Log) (r : Bool) (h : l30_Short_g x = some r) : Holds Tryz.prog 12 [(encTsawmilllaw30_Log x)] [] (B r) [] := by
 unfold l30_Short_g at h
 refine holds_fn Tryz.func12 rfl Tryz.ntmps12 rfl rfl rfl (fun lim => ?_)
 refine awp_seq (awp_go hmix (go_run' ttok 2 rfl (go_nil nd (then_norm (awp_seq (awp_seq (awp_go hmix (go_run' ttok 2 rfl ?_))))))))
 refine go_lenT encTSlice x.Solid ttok rfl rfl rfl rfl rfl rfl ?_
 refine go_run' ttok 2 rfl ?_
 refine go_gcase rfl rfl rfl (fun g1 => ?_) (fun g1 => ?_)
 ·rw [g1]
  replace h := of_bif_t h g1
  refine go_run' ttok 5 rfl (go_nil nd (then_norm ?_))
  refine awp_cond rfl (fun tt0 => ?_) (fun h => by cases h)
  clear tt0
  refine awp_seq (awp_go hmix (go_run' ttok 1 rfl (go_nil nd (then_norm (awp_ret (then_ret ?_))))))
  have e2 := of_some h
  subst e2
  refine ret_ret ?_
  refine fin0 ttok rfl rfl ?_
  exact (wkP_refl _ rfl)
 ·rw [g1]
  replace h := of_bif_f h g1
  refine go_run' ttok 2 rfl ?_
  refine go_lenT encDf x.Defects ttok rfl rfl rfl rfl rfl rfl ?_
  refine go_run' ttok 2 rfl (go_nil nd (then_norm ?_))
  refine awp_cond (b := (decide (100 < ((x.Defects.length : Nat) : Int)))) rfl (fun c3 => ?_) (fun c3 => ?_)
  ·replace h := of_bif_t h c3
   refine awp_seq (awp_go hmix (go_run' ttok 1 rfl (go_nil nd (then_norm (awp_ret (then_ret ?_))))))
   have e4 := of_some h
   subst e4
   refine ret_ret ?_
   refine fin0 ttok rfl rfl ?_
   exact (wkP_refl _ rfl)
  ·replace h := of_bif_f h c3
   refine awp_skip (then_norm ?_)
   obtain ⟨y, hx5, h⟩ := of_obind h
   refine awp_seqJ (X := Unit) [] [] (fun _ => []) (fun _ => []) (fun w => Sum.inr w = y) rfl rfl ?_ ?_
   ·skip
    refine awp_seq (awp_go hmix (go_run' ttok 1 rfl (go_nil nd (then_norm (awp_block ?_)))))
    refine awp_loopD (X := Int) (Y := (Bool ⊕ Unit)) [1] [1] (fun q => [(3, (I q))]) (fun q => []) (fun q => l30_Short_s1 x q) 0 [(1, some 1)] hx5 ⟨rfl, rfl, rfl, rfl, rfl, ⟨wkP_id _ rfl, trivial⟩, trivial⟩ (fun i vR vz hz7 hk8 => ?_)
    change l30_Short_s1 x i = _ at hz7
    unfold l30_Short_s1 at hz7
    refine awp_seq (awp_seq (awp_go hmix (go_run' ttok 3 rfl ?_)))
    refine go_lenT encTSlice x.Solid ttok rfl rfl rfl rfl rfl rfl ?_
    refine go_run' ttok 1 rfl (go_nil nd (then_norm ?_))
    refine awp_cond (b := (decide (i < ((x.Solid.length : Nat) : Int)))) rfl (fun c9 => ?_) (fun c9 => ?_)
    ·replace hz7 := of_bif_t hz7 c9
     refine awp_skip (then_norm (awp_seq (awp_block (awp_seq (awp_go hmix (go_run' ttok 3 rfl ?_))))))
     obtain ⟨e, hv10, hz7⟩ := of_obind hz7
     refine go_indexT encTSlice x.Solid i e hv10 ttok rfl rfl rfl rfl rfl rfl rfl rfl rfl ?_
     refine go_run' ttok 3 rfl ?_
     refine go_lenT encSp e.Sec.Rows ttok rfl rfl rfl rfl rfl rfl ?_
     refine go_run' ttok 1 rfl (go_nil nd (then_norm ?_))
     refine awp_cond (b := (decide (130 < ((e.Sec.Rows.length : Nat) : Int)))) rfl (fun c11 => ?_) (fun c11 => ?_)
     ·replace hz7 := of_bif_t hz7 c11
      refine awp_seq (awp_go hmix (go_run' ttok 1 rfl (go_nil nd (then_norm (awp_ret (block_ret (then_ret ?_)))))))
      obtain ⟨t, hn12, hq⟩ := of_mapr' hz7
      subst hq
      have hq : t = _ := hk8
      subst hq
      refine then_ret (block_ret ?_)
      obtain ⟨t1, hn13, hq⟩ := of_mapl' hn12
      subst hq
      have hq := of_inl h
      replace hq := of_some hq
      subst hq
      refine then_ret ?_
      have e14 := of_some hn13
      subst e14
      refine ret_ret ?_
      refine fin0 ttok rfl rfl ?_
      exact (wkP_refl _ rfl)
     ·replace hz7 := of_bif_f hz7 c11
      refine awp_skip (block_norm (then_norm (awp_go hmix (go_run' ttok 3 rfl (go_nil nd ?_)))))
      have e15 := of_some hz7
      subst e15
      refine then_norm ⟨rfl, (W64 (i + 1)), [(1, some 1)], ⟨rfl, rfl, rfl, rfl, rfl, ⟨wkP_id _ rfl, trivial⟩, trivial⟩, hk8⟩
    ·replace hz7 := of_bif_f hz7 c9
     refine awp_exit (then_exit ?_)
     obtain ⟨t2, hn16, hq⟩ := of_mapr' hz7
     subst hq
     have hq : t2 = _ := hk8
     subst hq
     refine then_exit (block_here ?_)
     have e17 := of_some hn16
     refine then_norm ⟨rfl, (), [], ⟨rfl, rfl, rfl, rfl, rfl, trivial, trivial⟩, e17⟩
   ·intro w hw6
    subst hw6
    replace h := of_inr h
    refine awp_seq (awp_go hmix (go_run' ttok 1 rfl (go_nil nd (then_norm (awp_ret ?_)))))
    have e18 := of_some h
    subst e18
    refine ret_ret ?_
    refine fin0 ttok rfl rfl ?_
    exact (wkP_refl _ rfl)
noncomputable def l30_made_g (m : Tsawmilllaw30_Made) (x : Tsawmilllaw30_Log) : Option TBoard :=
 (Option.bind (board_New_g m.Id m.Log m.Species x.Solid x.Defects m.Product m.Box) (fun nv => some nv))
theorem l30_made_w (m : Tsawmilllaw30_Made) (x : Tsawmilllaw30_Log) (r : TBoard) (h : l30_made_g m x = some r) : Holds Tryz.prog 14 [(encTsawmilllaw30_Made m), (encTsawmilllaw30_Log x)] [] (encTBoard r) [] := by
 unfold l30_made_g at h
 refine holds_fn Tryz.func14 rfl Tryz.ntmps14 rfl rfl rfl (fun lim => ?_)
 refine awp_seq (awp_go hmix (go_run' ttok 3 rfl (go_nil nd (then_norm (awp_seq (awp_go hmix (go_run' ttok 14 rfl ?_)))))))
 obtain ⟨nv, hv1, h⟩ := of_obind h
 refine go_call fn42 (board_New_w m.Id m.Log m.Species x.Solid x.Defects m.Product m.Box nv hv1) rfl rfl rfl rfl rfl rfl rfl ?_
 refine go_run' ttok 1 rfl (go_nil nd (then_norm (awp_ret ?_)))
 have e2 := of_some h
 subst e2
 refine ret_ret ?_
 refine fin0 ttok rfl rfl ?_
 exact (wkP_refl _ rfl)
noncomputable def r10_beyond_g (n : Int) : Bool :=
 (bif (decide (n < (-600))) then true else (decide (600 < n)))
noncomputable def r10_empty_g (s : Sp) : Bool :=
 (decide (s.b ≤ s.a))
noncomputable def r10_Check_s1 (s : TSection) (i : Int) : Option (Int ⊕ (Int ⊕ Unit)) :=
 (bif (decide (i < ((s.Rows.length : Nat) : Int))) then (Option.bind (getI s.Rows i) (fun e => (bif (r10_beyond_g e.a) then some (Sum.inr (Sum.inl 9)) else (Option.bind (getI s.Rows i) (fun e1 => (bif (r10_beyond_g e1.b) then some (Sum.inr (Sum.inl 9)) else some (Sum.inl (W64 (i + 1))))))))) else some (Sum.inr (Sum.inr ())))
noncomputable def r10_Check_s2 (s : TSection) (i1 : Int) : Option (Int ⊕ (Int ⊕ Unit)) :=
 (bif (decide (i1 < ((s.Rows.length : Nat) : Int))) then (Option.bind (getI s.Rows i1) (fun e4 => (bif (r10_empty_g e4) then (Option.bind (getI s.Rows i1) (fun e5 => (bif (!(eqV encSp e5 (⟨0, 0⟩ : Sp))) then some (Sum.inr (Sum.inl 19)) else some (Sum.inl (W64 (i1 + 1)))))) else some (Sum.inl (W64 (i1 + 1)))))) else some (Sum.inr (Sum.inr ())))
noncomputable def r10_Check_g (s : TSection) : Option Int :=
 (bif (decide (120 < ((s.Rows.length : Nat) : Int))) then some 4 else (bif (decide (s.Low < (-60))) then some 9 else (bif (decide ((W64 (60 - ((s.Rows.length : Nat) : Int))) < s.Low)) then some 9 else (Option.bind ((loopO (fun q => r10_Check_s1 s q) 0) : Option (Int ⊕ Unit)) (Sum.elim (fun q => some q) (fun _ => (bif (((s.Rows.length : Nat) : Int) == 0) then (bif (s.Low != 0) then some 19 else some 0) else (Option.bind (getI s.Rows 0) (fun e2 => (bif (r10_empty_g e2) then some 19 else (Option.bind (getI s.Rows (W64 (((s.Rows.length : Nat) : Int) - 1))) (fun e3 => (bif (r10_empty_g e3) then some 19 else (Option.bind ((loopO (fun q => r10_Check_s2 s q) 0) : Option (Int ⊕ Unit)) (Sum.elim (fun q => some q) (fun _ => some 0))))))))))))))))
noncomputable def r11_Check_s1 (l : (List TSlice)) (vsum : Int) (i : Int) : Option ((Int × Int) ⊕ (Int ⊕ Unit)) :=
 (bif (decide (i < ((l.length : Nat) : Int))) then (Option.bind (getI l i) (fun e => (Option.bind (r10_Check_g e.Sec) (fun cv => (bif (cv != 0) then some (Sum.inr (Sum.inl cv)) else (Option.bind (getI l i) (fun e1 => (bif (((e1.Sec.Rows.length : Nat) : Int) == 0) then some (Sum.inr (Sum.inl 18)) else (Option.bind (getI l i) (fun e2 => (bif (decide (e2.Len < 1)) then some (Sum.inr (Sum.inl 9)) else (Option.bind (getI l i) (fun e3 => (bif (decide ((W64 (20000 - vsum)) < e3.Len)) then some (Sum.inr (Sum.inl 9)) else (Option.bind (getI l i) (fun e4 => some (Sum.inl ((W64 (vsum + e4.Len)), (W64 (i + 1)))))))))))))))))))) else some (Sum.inr (Sum.inr ())))
noncomputable def r11_Check_g (l : (List TSlice)) : Option Int :=
 (bif (((l.length : Nat) : Int) == 0) then some 3 else (bif (decide (24 < ((l.length : Nat) : Int))) then some 4 else (Option.bind ((loopO (fun q => r11_Check_s1 l q.1 q.2) (0, 0)) : Option (Int ⊕ Unit)) (Sum.elim (fun q => some q) (fun _ => some 0)))))
noncomputable def r03_Meet_g (a : Sp) (b : Sp) : Sp :=
 (bif (decide ((min a.b b.b) ≤ (max a.a b.a))) then (⟨0, 0⟩ : Sp) else (⟨(max a.a b.a), (min a.b b.b)⟩ : Sp))
noncomputable def r13_Meet_g (a : Bx) (b : Bx) : Bx :=
 (letB (r03_Meet_g a.x b.x) (fun mv => (letB (r03_Meet_g a.y b.y) (fun mv1 => (letB (r03_Meet_g a.z b.z) (fun mv2 => (⟨mv, mv1, mv2⟩ : Bx)))))))
noncomputable def r13_Touches_g (d : Df) (b : Bx) : Bool :=
 (letB (r13_Meet_g d.b b) (fun mv => (!(r13_Empty_g mv))))
noncomputable def r20_across_g (s : Sp) : Bool :=
 (bif (decide ((-600) ≤ s.a)) then (bif (decide (s.a < s.b)) then (decide (s.b ≤ 600)) else false) else false)
noncomputable def r11_Length_s1 (l : (List TSlice)) (n1 : Int) (i : Int) : Option ((Int × Int) ⊕ Int) :=
 (bif (decide (i < ((l.length : Nat) : Int))) then (Option.bind (getI l i) (fun e => some (Sum.inl ((W64 (n1 + e.Len)), (W64 (i + 1)))))) else some (Sum.inr n1))
noncomputable def r11_Length_g (l : (List TSlice)) : Option Int :=
 (Option.bind (r11_Check_g l) (fun cv => (bif (cv != 0) then some 0 else (Option.bind ((loopO (fun q => r11_Length_s1 l q.1 q.2) (0, 0)) : Option Int) (fun n => some n)))))
end Go.Proofs.YtpoehckffpbfiaaGreat
