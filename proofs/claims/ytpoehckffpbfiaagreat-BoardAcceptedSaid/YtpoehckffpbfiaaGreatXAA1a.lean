/- A1a: what functions of the program compute (written by mod.py). -/
import Derived.Test.YtpoehckffpbfiaaGreatXATy
import Derived.KernelRfl
namespace Go.Proofs.YtpoehckffpbfiaaGreat
open Go Go.Ab
set_option linter.unusedSimpArgs false
set_option linter.unusedVariables false
set_option linter.unusedSectionVars false
set_option maxRecDepth 20000
set_option maxHeartbeats 1000000
noncomputable def l19_Short_s1 (l : (List TProduct)) (i : Int) : Option (Int ⊕ (Bool ⊕ Unit)) :=
 (bif (decide (i < ((l.length : Nat) : Int))) then (bif (decide (20 ≤ i)) then some (Sum.inr (Sum.inl false)) else (Option.bind (getI l i) (fun e => (bif (decide (12 < ((e.Lengths.length : Nat) : Int))) then some (Sum.inr (Sum.inl false)) else (Option.bind (getI l i) (fun e1 => (bif (decide (12 < ((e1.Prices.length : Nat) : Int))) then some (Sum.inr (Sum.inl false)) else (Option.bind (getI l i) (fun e2 => (bif (decide (100 < ((e2.Name.size : Nat) : Int))) then some (Sum.inr (Sum.inl false)) else some (Sum.inl (W64 (i + 1))))))))))))) else some (Sum.inr (Sum.inr ())))
noncomputable def l19_Short_g (l : (List TProduct)) : Option Bool :=
 (Option.bind ((loopO (fun q => l19_Short_s1 l q) 0) : Option (Bool ⊕ Unit)) (Sum.elim (fun q => some q) (fun _ => some true)))
theorem l19_Short_w (l : (List TProduct)) (r : Bool) (h : l19_Short_g l = some r) : Holds Tryz.prog 8 [((encL encTProduct) l)] [] (B r) [] := by
 unfold l19_Short_g at h
 refine holds_fn Tryz.func8 rfl Tryz.ntmps8 rfl rfl rfl (fun lim => ?_)
 refine awp_seq (awp_go hmix (go_run' ttok 1 rfl (go_nil nd (then_norm ?_))))
 obtain ⟨y, hx1, h⟩ := of_obind h
 refine awp_seqJ (X := Unit) [] [] (fun _ => []) (fun _ => []) (fun w => Sum.inr w = y) rfl rfl ?_ ?_
 ·skip
  refine awp_seq (awp_go hmix (go_run' ttok 1 rfl (go_nil nd (then_norm (awp_block ?_)))))
  refine awp_loopD (X := Int) (Y := (Bool ⊕ Unit)) [0] [] (fun q => [(3, (I q))]) (fun q => []) (fun q => l19_Short_s1 l q) 0 [] hx1 ⟨rfl, rfl, rfl, rfl, rfl, ⟨wkP_id _ rfl, trivial⟩, trivial⟩ (fun i vR vz hz3 hk4 => ?_)
  change l19_Short_s1 l i = _ at hz3
  unfold l19_Short_s1 at hz3
  refine awp_seq (awp_seq (awp_go hmix (go_run' ttok 2 rfl ?_)))
  refine go_lenT encTProduct l ttok rfl rfl rfl rfl rfl rfl ?_
  refine go_run' ttok 1 rfl (go_nil nd (then_norm ?_))
  refine awp_cond (b := (decide (i < ((l.length : Nat) : Int)))) rfl (fun c5 => ?_) (fun c5 => ?_)
  ·replace hz3 := of_bif_t hz3 c5
   refine awp_skip (then_norm (awp_seq (awp_block (awp_seq (awp_go hmix (go_run' ttok 3 rfl ?_))))))
   refine go_gcase rfl rfl rfl (fun g6 => ?_) (fun g6 => ?_)
   ·rw [g6]
    replace hz3 := of_bif_t hz3 g6
    refine go_run' ttok 26 rfl (go_nil nd (then_norm ?_))
    refine awp_cond rfl (fun tt0 => ?_) (fun h => by cases h)
    clear tt0
    refine awp_seq (awp_go hmix (go_run' ttok 1 rfl (go_nil nd (then_norm (awp_ret (block_ret (then_ret ?_)))))))
    obtain ⟨t, hn7, hq⟩ := of_mapr' hz3
    subst hq
    have hq : t = _ := hk4
    subst hq
    refine then_ret (block_ret ?_)
    obtain ⟨t1, hn8, hq⟩ := of_mapl' hn7
    subst hq
    have hq := of_inl h
    replace hq := of_some hq
    subst hq
    refine then_ret ?_
    have e9 := of_some hn8
    subst e9
    refine ret_ret ?_
    refine fin0 ttok rfl rfl ?_
    exact (wkP_refl _ rfl)
   ·rw [g6]
    replace hz3 := of_bif_f hz3 g6
    refine go_run' ttok 2 rfl ?_
    obtain ⟨e, hv10, hz3⟩ := of_obind hz3
    refine go_indexT encTProduct l i e hv10 ttok rfl rfl rfl rfl rfl rfl rfl rfl rfl ?_
    refine go_run' ttok 2 rfl ?_
    refine go_lenT I e.Lengths ttok rfl rfl rfl rfl rfl rfl ?_
    refine go_run' ttok 3 rfl ?_
    refine go_gcase rfl rfl rfl (fun g11 => ?_) (fun g11 => ?_)
    ·rw [g11]
     replace hz3 := of_bif_t hz3 g11
     refine go_run' ttok 17 rfl (go_nil nd (then_norm ?_))
     refine awp_cond rfl (fun tt0 => ?_) (fun h => by cases h)
     clear tt0
     refine awp_seq (awp_go hmix (go_run' ttok 1 rfl (go_nil nd (then_norm (awp_ret (block_ret (then_ret ?_)))))))
     obtain ⟨t2, hn12, hq⟩ := of_mapr' hz3
     subst hq
     have hq : t2 = _ := hk4
     subst hq
     refine then_ret (block_ret ?_)
     obtain ⟨t3, hn13, hq⟩ := of_mapl' hn12
     subst hq
     have hq := of_inl h
     replace hq := of_some hq
     subst hq
     refine then_ret ?_
     have e14 := of_some hn13
     subst e14
     refine ret_ret ?_
     refine fin0 ttok rfl rfl ?_
     exact (wkP_refl _ rfl)
    ·rw [g11]
     replace hz3 := of_bif_f hz3 g11
     refine go_run' ttok 2 rfl ?_
     obtain ⟨e1, hv15, hz3⟩ := of_obind hz3
     refine go_indexT encTProduct l i e1 hv15 ttok rfl rfl rfl rfl rfl rfl rfl rfl rfl ?_
     refine go_run' ttok 2 rfl ?_
     refine go_lenT I e1.Prices ttok rfl rfl rfl rfl rfl rfl ?_
     refine go_run' ttok 3 rfl ?_
     refine go_gcase rfl rfl rfl (fun g16 => ?_) (fun g16 => ?_)
     ·rw [g16]
      replace hz3 := of_bif_t hz3 g16
      refine go_run' ttok 8 rfl (go_nil nd (then_norm ?_))
      refine awp_cond rfl (fun tt0 => ?_) (fun h => by cases h)
      clear tt0
      refine awp_seq (awp_go hmix (go_run' ttok 1 rfl (go_nil nd (then_norm (awp_ret (block_ret (then_ret ?_)))))))
      obtain ⟨t4, hn17, hq⟩ := of_mapr' hz3
      subst hq
      have hq : t4 = _ := hk4
      subst hq
      refine then_ret (block_ret ?_)
      obtain ⟨t5, hn18, hq⟩ := of_mapl' hn17
      subst hq
      have hq := of_inl h
      replace hq := of_some hq
      subst hq
      refine then_ret ?_
      have e19 := of_some hn18
      subst e19
      refine ret_ret ?_
      refine fin0 ttok rfl rfl ?_
      exact (wkP_refl _ rfl)
     ·rw [g16]
      replace hz3 := of_bif_f hz3 g16
      refine go_run' ttok 2 rfl ?_
      obtain ⟨e2, hv20, hz3⟩ := of_obind hz3
      refine go_indexT encTProduct l i e2 hv20 ttok rfl rfl rfl rfl rfl rfl rfl rfl rfl ?_
      refine go_run' ttok 5 rfl (go_nil nd (then_norm ?_))
      refine awp_cond (b := (decide (100 < ((e2.Name.size : Nat) : Int)))) rfl (fun c21 => ?_) (fun c21 => ?_)
      ·replace hz3 := of_bif_t hz3 c21
       refine awp_seq (awp_go hmix (go_run' ttok 1 rfl (go_nil nd (then_norm (awp_ret (block_ret (then_ret ?_)))))))
       obtain ⟨t6, hn22, hq⟩ := of_mapr' hz3
       subst hq
       have hq : t6 = _ := hk4
       subst hq
       refine then_ret (block_ret ?_)
       obtain ⟨t7, hn23, hq⟩ := of_mapl' hn22
       subst hq
       have hq := of_inl h
       replace hq := of_some hq
       subst hq
       refine then_ret ?_
       have e24 := of_some hn23
       subst e24
       refine ret_ret ?_
       refine fin0 ttok rfl rfl ?_
       exact (wkP_refl _ rfl)
      ·replace hz3 := of_bif_f hz3 c21
       refine awp_skip (block_norm (then_norm (awp_go hmix (go_run' ttok 3 rfl (go_nil nd ?_)))))
       have e25 := of_some hz3
       subst e25
       refine then_norm ⟨rfl, (W64 (i + 1)), [], ⟨rfl, rfl, rfl, rfl, rfl, ⟨wkP_id _ rfl, trivial⟩, trivial⟩, hk4⟩
  ·replace hz3 := of_bif_f hz3 c5
   refine awp_exit (then_exit ?_)
   obtain ⟨t8, hn26, hq⟩ := of_mapr' hz3
   subst hq
   have hq : t8 = _ := hk4
   subst hq
   refine then_exit (block_here ?_)
   have e27 := of_some hn26
   refine then_norm ⟨rfl, (), [], ⟨rfl, rfl, rfl, rfl, rfl, trivial, trivial⟩, e27⟩
 ·intro w hw2
  subst hw2
  replace h := of_inr h
  refine awp_seq (awp_go hmix (go_run' ttok 1 rfl (go_nil nd (then_norm (awp_ret ?_)))))
  have e28 := of_some h
  subst e28
  refine ret_ret ?_
  refine fin0 ttok rfl rfl ?_
  exact (wkP_refl _ rfl)
noncomputable def ident_isSmall_g (c : Int) : Bool :=
 (bif (decide (97 ≤ c)) then (decide (c ≤ 122)) else false)
theorem ident_isSmall_w (c : Int) (r : Bool) (h : ident_isSmall_g c = r) : Holds Tryz.prog 77 [(U8 c)] [] (B r) [] := by
 unfold ident_isSmall_g at h
 refine holds_fn Tryz.func77 rfl Tryz.ntmps77 rfl rfl rfl (fun lim => ?_)
 refine awp_seq (awp_go hmix (go_run' ttok 1 rfl (go_nil nd (then_norm (awp_seq (awp_go hmix (go_run' ttok 3 rfl ?_)))))))
 refine go_gcase rfl rfl rfl (fun g1 => ?_) (fun g1 => ?_)
 ·rw [g1]
  replace h := of_bif_t h g1
  refine go_run' ttok 4 rfl (go_nil nd (then_norm (awp_ret ?_)))
  have e2 := h
  subst e2
  refine ret_ret ?_
  refine fin0 ttok rfl rfl ?_
  exact (wkP_refl _ rfl)
 ·rw [g1]
  replace h := of_bif_f h g1
  refine go_run' ttok 4 rfl (go_nil nd (then_norm (awp_ret ?_)))
  have e3 := h
  subst e3
  refine ret_ret ?_
  refine fin0 ttok rfl rfl ?_
  exact (wkP_refl _ rfl)
noncomputable def ident_isDigit_g (c : Int) : Bool :=
 (bif (decide (48 ≤ c)) then (decide (c ≤ 57)) else false)
theorem ident_isDigit_w (c : Int) (r : Bool) (h : ident_isDigit_g c = r) : Holds Tryz.prog 78 [(U8 c)] [] (B r) [] := by
 unfold ident_isDigit_g at h
 refine holds_fn Tryz.func78 rfl Tryz.ntmps78 rfl rfl rfl (fun lim => ?_)
 refine awp_seq (awp_go hmix (go_run' ttok 1 rfl (go_nil nd (then_norm (awp_seq (awp_go hmix (go_run' ttok 3 rfl ?_)))))))
 refine go_gcase rfl rfl rfl (fun g1 => ?_) (fun g1 => ?_)
 ·rw [g1]
  replace h := of_bif_t h g1
  refine go_run' ttok 4 rfl (go_nil nd (then_norm (awp_ret ?_)))
  have e2 := h
  subst e2
  refine ret_ret ?_
  refine fin0 ttok rfl rfl ?_
  exact (wkP_refl _ rfl)
 ·rw [g1]
  replace h := of_bif_f h g1
  refine go_run' ttok 4 rfl (go_nil nd (then_norm (awp_ret ?_)))
  have e3 := h
  subst e3
  refine ret_ret ?_
  refine fin0 ttok rfl rfl ?_
  exact (wkP_refl _ rfl)
noncomputable def ident_IsName_s1 (s : ByteArray) (i : Int) : Option (Int ⊕ (Bool ⊕ Unit)) :=
 (bif (decide (i < ((s.size : Nat) : Int))) then (Option.bind (bytO s i) (fun c1 => (bif (!(ident_isSmall_g c1)) then (bif (!(ident_isDigit_g c1)) then (bif (c1 != 95) then some (Sum.inr (Sum.inl false)) else some (Sum.inl (W64 (i + 1)))) else some (Sum.inl (W64 (i + 1)))) else some (Sum.inl (W64 (i + 1)))))) else some (Sum.inr (Sum.inr ())))
noncomputable def ident_IsName_g (s : ByteArray) : Option Bool :=
 (bif (decide (((s.size : Nat) : Int) < 1)) then some false else (bif (decide (16 < ((s.size : Nat) : Int))) then some false else (Option.bind (bytO s 0) (fun c => (bif (!(ident_isSmall_g c)) then some false else (Option.bind ((loopO (fun q => ident_IsName_s1 s q) 1) : Option (Bool ⊕ Unit)) (Sum.elim (fun q => some q) (fun _ => some true))))))))
theorem ident_IsName_w (s : ByteArray) (r : Bool) (h : ident_IsName_g s = some r) : Holds Tryz.prog 25 [(S s)] [] (B r) [] := by
 unfold ident_IsName_g at h
 refine holds_fn Tryz.func25 rfl Tryz.ntmps25 rfl rfl rfl (fun lim => ?_)
 refine awp_seq (awp_go hmix (go_run' ttok 1 rfl (go_nil nd (then_norm (awp_seq (awp_seq (awp_go hmix (go_run' ttok 4 rfl ?_))))))))
 refine go_gcase rfl rfl rfl (fun g1 => ?_) (fun g1 => ?_)
 ·rw [g1]
  replace h := of_bif_t h g1
  refine go_run' ttok 10 rfl (go_nil nd (then_norm ?_))
  refine awp_cond rfl (fun tt0 => ?_) (fun h => by cases h)
  clear tt0
  refine awp_seq (awp_go hmix (go_run' ttok 1 rfl (go_nil nd (then_norm (awp_ret (then_ret ?_))))))
  have e2 := of_some h
  subst e2
  refine ret_ret ?_
  refine fin0 ttok rfl rfl ?_
  exact (wkP_refl _ rfl)
 ·rw [g1]
  replace h := of_bif_f h g1
  refine go_run' ttok 5 rfl ?_
  refine go_gcase rfl rfl rfl (fun g3 => ?_) (fun g3 => ?_)
  ·rw [g3]
   replace h := of_bif_t h g3
   refine go_run' ttok 5 rfl (go_nil nd (then_norm ?_))
   refine awp_cond rfl (fun tt0 => ?_) (fun h => by cases h)
   clear tt0
   refine awp_seq (awp_go hmix (go_run' ttok 1 rfl (go_nil nd (then_norm (awp_ret (then_ret ?_))))))
   have e4 := of_some h
   subst e4
   refine ret_ret ?_
   refine fin0 ttok rfl rfl ?_
   exact (wkP_refl _ rfl)
  ·rw [g3]
   replace h := of_bif_f h g3
   refine go_run' ttok 1 rfl ?_
   obtain ⟨c, hv5, h⟩ := of_obind h
   refine go_indexB s 0 c hv5 ttok rfl rfl rfl rfl rfl rfl rfl ?_
   refine go_call fn77 (ident_isSmall_w c _ rfl) rfl rfl rfl rfl rfl rfl rfl ?_
   refine go_run' ttok 2 rfl (go_nil nd (then_norm ?_))
   refine awp_cond (b := (!(ident_isSmall_g c))) rfl (fun c6 => ?_) (fun c6 => ?_)
   ·replace h := of_bif_t h c6
    refine awp_seq (awp_go hmix (go_run' ttok 1 rfl (go_nil nd (then_norm (awp_ret (then_ret ?_))))))
    have e7 := of_some h
    subst e7
    refine ret_ret ?_
    refine fin0 ttok rfl rfl ?_
    exact (wkP_refl _ rfl)
   ·replace h := of_bif_f h c6
    refine awp_skip (then_norm ?_)
    obtain ⟨y, hx8, h⟩ := of_obind h
    refine awp_seqJ (X := Unit) [] [] (fun _ => []) (fun _ => []) (fun w => Sum.inr w = y) rfl rfl ?_ ?_
    ·skip
     refine awp_seq (awp_go hmix (go_run' ttok 1 rfl (go_nil nd (then_norm (awp_block ?_)))))
     refine awp_loopD (X := Int) (Y := (Bool ⊕ Unit)) [0] [] (fun q => [(3, (I q))]) (fun q => []) (fun q => ident_IsName_s1 s q) 1 [] hx8 ⟨rfl, rfl, rfl, rfl, rfl, ⟨wkP_id _ rfl, trivial⟩, trivial⟩ (fun i vR vz hz10 hk11 => ?_)
     change ident_IsName_s1 s i = _ at hz10
     unfold ident_IsName_s1 at hz10
     refine awp_seq (awp_seq (awp_go hmix (go_run' ttok 4 rfl (go_nil nd (then_norm ?_)))))
     refine awp_cond (b := (decide (i < ((s.size : Nat) : Int)))) rfl (fun c12 => ?_) (fun c12 => ?_)
     ·replace hz10 := of_bif_t hz10 c12
      refine awp_skip (then_norm (awp_seq (awp_block (awp_seq (awp_go hmix (go_run' ttok 2 rfl ?_))))))
      obtain ⟨c1, hv13, hz10⟩ := of_obind hz10
      refine go_indexB s i c1 hv13 ttok rfl rfl rfl rfl rfl rfl rfl ?_
      refine go_run' ttok 1 rfl (go_nil nd (then_norm (awp_seq (awp_go hmix (go_run' ttok 1 rfl ?_)))))
      refine go_call fn77 (ident_isSmall_w c1 _ rfl) rfl rfl rfl rfl rfl rfl rfl ?_
      refine go_run' ttok 2 rfl ?_
      refine go_gcase rfl rfl rfl (fun g14 => ?_) (fun g14 => ?_)
      ·rw [g14]
       replace hz10 := of_bif_t hz10 g14
       refine go_run' ttok 1 rfl ?_
       refine go_call fn78 (ident_isDigit_w c1 _ rfl) rfl rfl rfl rfl rfl rfl rfl ?_
       refine go_run' ttok 3 rfl ?_
       refine go_gcase rfl rfl rfl (fun g15 => ?_) (fun g15 => ?_)
       ·rw [g15]
        replace hz10 := of_bif_t hz10 g15
        refine go_run' ttok 3 rfl (go_nil nd (then_norm ?_))
        refine awp_cond (b := (c1 != 95)) rfl (fun c16 => ?_) (fun c16 => ?_)
        ·replace hz10 := of_bif_t hz10 c16
         refine awp_seq (awp_go hmix (go_run' ttok 1 rfl (go_nil nd (then_norm (awp_ret (block_ret (then_ret ?_)))))))
         obtain ⟨t, hn17, hq⟩ := of_mapr' hz10
         subst hq
         have hq : t = _ := hk11
         subst hq
         refine then_ret (block_ret ?_)
         obtain ⟨t1, hn18, hq⟩ := of_mapl' hn17
         subst hq
         have hq := of_inl h
         replace hq := of_some hq
         subst hq
         refine then_ret ?_
         have e19 := of_some hn18
         subst e19
         refine ret_ret ?_
         refine fin0 ttok rfl rfl ?_
         exact (wkP_refl _ rfl)
        ·replace hz10 := of_bif_f hz10 c16
         refine awp_skip (block_norm (then_norm (awp_go hmix (go_run' ttok 3 rfl (go_nil nd ?_)))))
         have e20 := of_some hz10
         subst e20
         refine then_norm ⟨rfl, (W64 (i + 1)), [], ⟨rfl, rfl, rfl, rfl, rfl, ⟨wkP_id _ rfl, trivial⟩, trivial⟩, hk11⟩
       ·rw [g15]
        replace hz10 := of_bif_f hz10 g15
        refine go_run' ttok 3 rfl (go_nil nd (then_norm ?_))
        refine awp_cond rfl (fun h => by cases h) (fun tt0 => ?_)
        clear tt0
        refine awp_skip (block_norm (then_norm (awp_go hmix (go_run' ttok 3 rfl (go_nil nd ?_)))))
        have e21 := of_some hz10
        subst e21
        refine then_norm ⟨rfl, (W64 (i + 1)), [], ⟨rfl, rfl, rfl, rfl, rfl, ⟨wkP_id _ rfl, trivial⟩, trivial⟩, hk11⟩
      ·rw [g14]
       replace hz10 := of_bif_f hz10 g14
       refine go_run' ttok 8 rfl (go_nil nd (then_norm ?_))
       refine awp_cond rfl (fun h => by cases h) (fun tt0 => ?_)
       clear tt0
       refine awp_skip (block_norm (then_norm (awp_go hmix (go_run' ttok 3 rfl (go_nil nd ?_)))))
       have e22 := of_some hz10
       subst e22
       refine then_norm ⟨rfl, (W64 (i + 1)), [], ⟨rfl, rfl, rfl, rfl, rfl, ⟨wkP_id _ rfl, trivial⟩, trivial⟩, hk11⟩
     ·replace hz10 := of_bif_f hz10 c12
      refine awp_exit (then_exit ?_)
      obtain ⟨t2, hn23, hq⟩ := of_mapr' hz10
      subst hq
      have hq : t2 = _ := hk11
      subst hq
      refine then_exit (block_here ?_)
      have e24 := of_some hn23
      refine then_norm ⟨rfl, (), [], ⟨rfl, rfl, rfl, rfl, rfl, trivial, trivial⟩, e24⟩
    ·intro w hw9
     subst hw9
     replace h := of_inr h
     refine awp_seq (awp_go hmix (go_run' ttok 1 rfl (go_nil nd (then_norm (awp_ret ?_)))))
     have e25 := of_some h
     subst e25
     refine ret_ret ?_
     refine fin0 ttok rfl rfl ?_
     exact (wkP_refl _ rfl)
noncomputable def ident_IsName_cs1 (N : Nat) (s : ByteArray) (i : Int) : Option (Int ⊕ (Bool ⊕ Unit)) :=
 (bif (decide (i < ((s.size : Nat) : Int))) then (Option.bind (bytO s i) (fun c1 => (bif (!(ident_isSmall_g c1)) then (bif (!(ident_isDigit_g c1)) then (bif (c1 != 95) then some (Sum.inr (Sum.inl false)) else some (Sum.inl (W64 (i + 1)))) else some (Sum.inl (W64 (i + 1)))) else some (Sum.inl (W64 (i + 1)))))) else some (Sum.inr (Sum.inr ())))
theorem ident_IsName_cs1_le (N : Nat) (s : ByteArray) (i : Int) : OLe (ident_IsName_cs1 N s i) (ident_IsName_s1 s i) := by
 unfold ident_IsName_cs1 ident_IsName_s1
 repeat' (first | exact ole_rfl | refine ole_bif ?_ ?_ | refine ole_bind ?_ (fun _ => ?_) | refine ole_let (fun _ => ?_) | refine ole_map ?_ | refine ole_elim (fun _ => ?_) (fun _ => ?_) | refine ole_loop (fun _ => ?_))
noncomputable def ident_IsName_c (N : Nat) (s : ByteArray) : Option Bool :=
 (bif (decide (((s.size : Nat) : Int) < 1)) then some false else (bif (decide (16 < ((s.size : Nat) : Int))) then some false else (Option.bind (bytO s 0) (fun c => (bif (!(ident_isSmall_g c)) then some false else (Option.bind ((iterX N (fun q => ident_IsName_cs1 N s q) 1) : Option (Bool ⊕ Unit)) (Sum.elim (fun q => some q) (fun _ => some true))))))))
theorem ident_IsName_le (N : Nat) (s : ByteArray) : OLe (ident_IsName_c N s) (ident_IsName_g s) := by
 unfold ident_IsName_c ident_IsName_g
 repeat' (first | exact ole_rfl | exact ident_IsName_cs1_le _ _ _ | refine ole_bif ?_ ?_ | refine ole_bind ?_ (fun _ => ?_) | refine ole_let (fun _ => ?_) | refine ole_map ?_ | refine ole_elim (fun _ => ?_) (fun _ => ?_) | refine ole_loop (fun _ => ?_))
noncomputable def product_Find_s1 (l : (List TProduct)) (name : ByteArray) (vv : Int) : Option (Int ⊕ ((Int × Bool) ⊕ Unit)) :=
 (bif (decide (vv < ((l.length : Nat) : Int))) then (Option.bind (getI l vv) (fun e => (bif (bEq e.Name name) then some (Sum.inr (Sum.inl (vv, true))) else some (Sum.inl (W64 (vv + 1)))))) else some (Sum.inr (Sum.inr ())))
noncomputable def product_Find_g (l : (List TProduct)) (name : ByteArray) : Option (Int × Bool) :=
 (Option.bind ((loopO (fun q => product_Find_s1 l name q) 0) : Option ((Int × Bool) ⊕ Unit)) (Sum.elim (fun q => some q) (fun _ => some (0, false))))
theorem product_Find_w (l : (List TProduct)) (name : ByteArray) (r : (Int × Bool)) (h : product_Find_g l name = some r) : Holds Tryz.prog 73 [((encL encTProduct) l), (S name)] [] (.tup [(I r.1), (B r.2)]) [] := by
 unfold product_Find_g at h
 refine holds_fn Tryz.func73 rfl Tryz.ntmps73 rfl rfl rfl (fun lim => ?_)
 refine awp_seq (awp_go hmix (go_run' ttok 2 rfl (go_nil nd (then_norm ?_))))
 obtain ⟨y, hx1, h⟩ := of_obind h
 refine awp_seqJ (X := Unit) [] [] (fun _ => []) (fun _ => []) (fun w => Sum.inr w = y) rfl rfl ?_ ?_
 ·skip
  refine awp_seq (awp_go hmix (go_run' ttok 1 rfl ?_))
  refine go_lenT encTProduct l ttok rfl rfl rfl rfl rfl rfl ?_
  refine go_run' ttok 1 rfl (go_nil nd (then_norm (awp_block ?_)))
  refine awp_loopD (X := Int) (Y := ((Int × Bool) ⊕ Unit)) [1, 8, 9] [] (fun q => [(10, (I q))]) (fun q => []) (fun q => product_Find_s1 l name q) 0 [] hx1 ⟨rfl, rfl, rfl, rfl, rfl, ⟨wkP_id _ rfl, trivial⟩, trivial⟩ (fun vv vR vz hz3 hk4 => ?_)
  change product_Find_s1 l name vv = _ at hz3
  unfold product_Find_s1 at hz3
  refine awp_seq (awp_go hmix (go_run' ttok 1 rfl (go_nil nd (then_norm (awp_seq ?_)))))
  refine awp_cond (b := (decide (vv < ((l.length : Nat) : Int)))) rfl (fun c5 => ?_) (fun c5 => ?_)
  ·replace hz3 := of_bif_t hz3 c5
   refine awp_skip (then_norm (awp_seq (awp_block (awp_seq (awp_go hmix (go_run' ttok 1 rfl ?_))))))
   obtain ⟨e, hv6, hz3⟩ := of_obind hz3
   refine go_indexT encTProduct l vv e hv6 ttok rfl rfl rfl rfl rfl rfl rfl rfl rfl ?_
   refine go_run' ttok 4 rfl (go_nil nd (then_norm (awp_seq (awp_go hmix (go_run' ttok 3 rfl ?_)))))
   refine go_eqlS e.Name name rfl rfl rfl rfl rfl ?_
   refine go_nil nd (then_norm ?_)
   refine awp_cond (b := (bEq e.Name name)) rfl (fun c7 => ?_) (fun c7 => ?_)
   ·replace hz3 := of_bif_t hz3 c7
    refine awp_seq (awp_go hmix (go_run' ttok 3 rfl (go_nil nd (then_norm (awp_ret (block_ret (then_ret ?_)))))))
    obtain ⟨t, hn8, hq⟩ := of_mapr' hz3
    subst hq
    have hq : t = _ := hk4
    subst hq
    refine then_ret (block_ret ?_)
    obtain ⟨t1, hn9, hq⟩ := of_mapl' hn8
    subst hq
    have hq := of_inl h
    replace hq := of_some hq
    subst hq
    refine then_ret ?_
    have e10 := of_some hn9
    subst e10
    refine ret_ret ?_
    refine fin0 ttok rfl rfl ?_
    exact wkP_refl _ rfl
   ·replace hz3 := of_bif_f hz3 c7
    refine awp_skip (block_norm (then_norm (awp_go hmix (go_run' ttok 2 rfl (go_nil nd ?_)))))
    have e11 := of_some hz3
    subst e11
    refine then_norm ⟨rfl, (W64 (vv + 1)), [], ⟨rfl, rfl, rfl, rfl, rfl, ⟨wkP_id _ rfl, trivial⟩, trivial⟩, hk4⟩
  ·replace hz3 := of_bif_f hz3 c5
   refine awp_exit (then_exit ?_)
   obtain ⟨t2, hn12, hq⟩ := of_mapr' hz3
   subst hq
   have hq : t2 = _ := hk4
   subst hq
   refine then_exit (block_here ?_)
   have e13 := of_some hn12
   refine then_norm ⟨rfl, (), [], ⟨rfl, rfl, rfl, rfl, rfl, trivial, trivial⟩, e13⟩
 ·intro w hw2
  subst hw2
  replace h := of_inr h
  refine awp_seq (awp_go hmix (go_run' ttok 2 rfl (go_nil nd (then_norm (awp_ret ?_)))))
  have e14 := of_some h
  subst e14
  refine ret_ret ?_
  refine fin0 ttok rfl rfl ?_
  exact wkP_refl _ rfl
noncomputable def product_Find_cs1 (N : Nat) (l : (List TProduct)) (name : ByteArray) (vv : Int) : Option (Int ⊕ ((Int × Bool) ⊕ Unit)) :=
 (bif (decide (vv < ((l.length : Nat) : Int))) then (Option.bind (getI l vv) (fun e => (bif (bEq e.Name name) then some (Sum.inr (Sum.inl (vv, true))) else some (Sum.inl (W64 (vv + 1)))))) else some (Sum.inr (Sum.inr ())))
theorem product_Find_cs1_le (N : Nat) (l : (List TProduct)) (name : ByteArray) (vv : Int) : OLe (product_Find_cs1 N l name vv) (product_Find_s1 l name vv) := by
 unfold product_Find_cs1 product_Find_s1
 repeat' (first | exact ole_rfl | refine ole_bif ?_ ?_ | refine ole_bind ?_ (fun _ => ?_) | refine ole_let (fun _ => ?_) | refine ole_map ?_ | refine ole_elim (fun _ => ?_) (fun _ => ?_) | refine ole_loop (fun _ => ?_))
noncomputable def product_Find_c (N : Nat) (l : (List TProduct)) (name : ByteArray) : Option (Int × Bool) :=
 (Option.bind ((iterX N (fun q => product_Find_cs1 N l name q) 0) : Option ((Int × Bool) ⊕ Unit)) (Sum.elim (fun q => some q) (fun _ => some (0, false))))
theorem product_Find_le (N : Nat) (l : (List TProduct)) (name : ByteArray) : OLe (product_Find_c N l name) (product_Find_g l name) := by
 unfold product_Find_c product_Find_g
 repeat' (first | exact ole_rfl | exact product_Find_cs1_le _ _ _ _ | refine ole_bif ?_ ?_ | refine ole_bind ?_ (fun _ => ?_) | refine ole_let (fun _ => ?_) | refine ole_map ?_ | refine ole_elim (fun _ => ?_) (fun _ => ?_) | refine ole_loop (fun _ => ?_))
noncomputable def product_isSize_g (n : Int) : Bool :=
 (bif (decide (1 ≤ n)) then (decide (n ≤ 600)) else false)
theorem product_isSize_w (n : Int) (r : Bool) (h : product_isSize_g n = r) : Holds Tryz.prog 80 [(I n)] [] (B r) [] := by
 unfold product_isSize_g at h
 refine holds_fn Tryz.func80 rfl Tryz.ntmps80 rfl rfl rfl (fun lim => ?_)
 refine awp_seq (awp_go hmix (go_run' ttok 1 rfl (go_nil nd (then_norm (awp_seq (awp_go hmix (go_run' ttok 3 rfl ?_)))))))
 refine go_gcase rfl rfl rfl (fun g1 => ?_) (fun g1 => ?_)
 ·rw [g1]
  replace h := of_bif_t h g1
  refine go_run' ttok 4 rfl (go_nil nd (then_norm (awp_ret ?_)))
  have e2 := h
  subst e2
  refine ret_ret ?_
  refine fin0 ttok rfl rfl ?_
  exact (wkP_refl _ rfl)
 ·rw [g1]
  replace h := of_bif_f h g1
  refine go_run' ttok 4 rfl (go_nil nd (then_norm (awp_ret ?_)))
  have e3 := h
  subst e3
  refine ret_ret ?_
  refine fin0 ttok rfl rfl ?_
  exact (wkP_refl _ rfl)
noncomputable def product_grow_g (vsize : Int) (allow : Int) : Int :=
 (W64 (Int.tdiv (W64 ((W64 (vsize * (W64 (1000 + allow)))) + 999)) 1000))
theorem product_grow_w (vsize : Int) (allow : Int) (r : Int) (h : product_grow_g vsize allow = r) : Holds Tryz.prog 81 [(I vsize), (I allow)] [] (I r) [] := by
 unfold product_grow_g at h
 refine holds_fn Tryz.func81 rfl Tryz.ntmps81 rfl rfl rfl (fun lim => ?_)
 refine awp_seq (awp_go hmix (go_run' ttok 1 rfl (go_nil nd (then_norm (awp_seq (awp_go hmix (go_run' ttok 7 rfl (go_nil nd (then_norm (awp_ret ?_))))))))))
 have e1 := h
 subst e1
 refine ret_ret ?_
 refine fin0 ttok rfl rfl ?_
 exact (wkP_refl _ rfl)
noncomputable def product_Green_g (p : TProduct) : (Int × Int) :=
 (bif (!(product_isSize_g p.Thick)) then (0, 0) else (bif (!(product_isSize_g p.Width)) then (0, 0) else (bif (decide (p.Allow < 0)) then (0, 0) else (bif (decide (200 < p.Allow)) then (0, 0) else ((product_grow_g p.Thick p.Allow), (product_grow_g p.Width p.Allow))))))
theorem product_Green_w (p : TProduct) (r : (Int × Int)) (h : product_Green_g p = r) : Holds Tryz.prog 28 [(encTProduct p)] [] (.tup [(I r.1), (I r.2)]) [] := by
 unfold product_Green_g at h
 refine holds_fn Tryz.func28 rfl Tryz.ntmps28 rfl rfl rfl (fun lim => ?_)
 refine awp_seq (awp_go hmix (go_run' ttok 3 rfl (go_nil nd (then_norm (awp_seq (awp_seq (awp_go hmix (go_run' ttok 2 rfl ?_))))))))
 refine go_call fn80 (product_isSize_w p.Thick _ rfl) rfl rfl rfl rfl rfl rfl rfl ?_
 refine go_run' ttok 2 rfl ?_
 refine go_gcase rfl rfl rfl (fun g1 => ?_) (fun g1 => ?_)
 ·rw [g1]
  replace h := of_bif_t h g1
  refine go_run' ttok 15 rfl (go_nil nd (then_norm ?_))
  refine awp_cond rfl (fun tt0 => ?_) (fun h => by cases h)
  clear tt0
  refine awp_seq (awp_go hmix (go_run' ttok 2 rfl (go_nil nd (then_norm (awp_ret (then_ret ?_))))))
  have e2 := h
  subst e2
  refine ret_ret ?_
  refine fin0 ttok rfl rfl ?_
  exact wkP_refl _ rfl
 ·rw [g1]
  replace h := of_bif_f h g1
  refine go_run' ttok 2 rfl ?_
  refine go_call fn80 (product_isSize_w p.Width _ rfl) rfl rfl rfl rfl rfl rfl rfl ?_
  refine go_run' ttok 3 rfl ?_
  refine go_gcase rfl rfl rfl (fun g3 => ?_) (fun g3 => ?_)
  ·rw [g3]
   replace h := of_bif_t h g3
   refine go_run' ttok 9 rfl (go_nil nd (then_norm ?_))
   refine awp_cond rfl (fun tt0 => ?_) (fun h => by cases h)
   clear tt0
   refine awp_seq (awp_go hmix (go_run' ttok 2 rfl (go_nil nd (then_norm (awp_ret (then_ret ?_))))))
   have e4 := h
   subst e4
   refine ret_ret ?_
   refine fin0 ttok rfl rfl ?_
   exact wkP_refl _ rfl
  ·rw [g3]
   replace h := of_bif_f h g3
   refine go_run' ttok 5 rfl ?_
   refine go_gcase rfl rfl rfl (fun g5 => ?_) (fun g5 => ?_)
   ·rw [g5]
    replace h := of_bif_t h g5
    refine go_run' ttok 4 rfl (go_nil nd (then_norm ?_))
    refine awp_cond rfl (fun tt0 => ?_) (fun h => by cases h)
    clear tt0
    refine awp_seq (awp_go hmix (go_run' ttok 2 rfl (go_nil nd (then_norm (awp_ret (then_ret ?_))))))
    have e6 := h
    subst e6
    refine ret_ret ?_
    refine fin0 ttok rfl rfl ?_
    exact wkP_refl _ rfl
   ·rw [g5]
    replace h := of_bif_f h g5
    refine go_run' ttok 4 rfl (go_nil nd (then_norm ?_))
    refine awp_cond (b := (decide (200 < p.Allow))) rfl (fun c7 => ?_) (fun c7 => ?_)
    ·replace h := of_bif_t h c7
     refine awp_seq (awp_go hmix (go_run' ttok 2 rfl (go_nil nd (then_norm (awp_ret (then_ret ?_))))))
     have e8 := h
     subst e8
     refine ret_ret ?_
     refine fin0 ttok rfl rfl ?_
     exact wkP_refl _ rfl
    ·replace h := of_bif_f h c7
     refine awp_skip (then_norm (awp_seq (awp_go hmix (go_run' ttok 4 rfl ?_))))
     refine go_call fn81 (product_grow_w p.Thick p.Allow _ rfl) rfl rfl rfl rfl rfl rfl rfl ?_
     refine go_run' ttok 4 rfl ?_
     refine go_call fn81 (product_grow_w p.Width p.Allow _ rfl) rfl rfl rfl rfl rfl rfl rfl ?_
     refine go_run' ttok 2 rfl ?_
     refine go_nil (fun _ => by kernel_rfl) ?_
     refine then_norm (awp_ret ?_)
     have e9 := h
     subst e9
     refine ret_ret ?_
     refine fin0 ttok rfl rfl ?_
     exact wkP_refl _ rfl
noncomputable def product_checkNumbers_s1 (p : TProduct) (vv : Int) : Option (Int ⊕ (Int ⊕ Unit)) :=
 (bif (decide (vv < ((p.Lengths.length : Nat) : Int))) then (Option.bind (getI p.Lengths vv) (fun e => (bif (decide (e < 100)) then some (Sum.inr (Sum.inl 9)) else (bif (decide (20000 < e)) then some (Sum.inr (Sum.inl 9)) else (bif (decide (0 < vv)) then (Option.bind (getI p.Lengths (W64 (vv - 1))) (fun e1 => (bif (decide (e ≤ e1)) then some (Sum.inr (Sum.inl 11)) else some (Sum.inl (W64 (vv + 1)))))) else some (Sum.inl (W64 (vv + 1)))))))) else some (Sum.inr (Sum.inr ())))
noncomputable def product_checkNumbers_s2 (p : TProduct) (vv1 : Int) : Option (Int ⊕ (Int ⊕ Unit)) :=
 (bif (decide (vv1 < ((p.Prices.length : Nat) : Int))) then (Option.bind (getI p.Prices vv1) (fun e2 => (bif (decide (e2 < 0)) then some (Sum.inr (Sum.inl 9)) else (bif (decide (1000000 < e2)) then some (Sum.inr (Sum.inl 9)) else some (Sum.inl (W64 (vv1 + 1))))))) else some (Sum.inr (Sum.inr ())))
noncomputable def product_checkNumbers_g (p : TProduct) : Option Int :=
 (bif (decide (p.Thick < 5)) then some 9 else (bif (decide (300 < p.Thick)) then some 9 else (bif (decide (p.Width < p.Thick)) then some 9 else (bif (decide (600 < p.Width)) then some 9 else (bif (decide (p.Allow < 0)) then some 9 else (bif (decide (200 < p.Allow)) then some 9 else (bif (decide (p.Wane < 0)) then some 9 else (bif (decide (1000 < p.Wane)) then some 9 else (letB (product_Green_g p) (fun gv => (bif (decide (600 < gv.2)) then some 9 else (bif (((p.Lengths.length : Nat) : Int) == 0) then some 3 else (bif (decide (8 < ((p.Lengths.length : Nat) : Int))) then some 4 else (bif (((p.Prices.length : Nat) : Int) != ((p.Lengths.length : Nat) : Int)) then some 19 else (Option.bind ((loopO (fun q => product_checkNumbers_s1 p q) 0) : Option (Int ⊕ Unit)) (Sum.elim (fun q => some q) (fun _ => (Option.bind ((loopO (fun q => product_checkNumbers_s2 p q) 0) : Option (Int ⊕ Unit)) (Sum.elim (fun q => some q) (fun _ => some 0))))))))))))))))))))
theorem product_checkNumbers_w (p : TProduct) (r : Int) (h : product_checkNumbers_g p = some r) : Holds Tryz.prog 74 [(encTProduct p)] [] (I r) [] := by
 unfold product_checkNumbers_g at h
 refine holds_fn Tryz.func74 rfl Tryz.ntmps74 rfl rfl rfl (fun lim => ?_)
 refine awp_seq (awp_go hmix (go_run' ttok 2 rfl (go_nil nd (then_norm (awp_seq (awp_seq (awp_go hmix (go_run' ttok 4 rfl ?_))))))))
 refine go_gcase rfl rfl rfl (fun g1 => ?_) (fun g1 => ?_)
 ·rw [g1]
  replace h := of_bif_t h g1
  refine go_run' ttok 16 rfl (go_nil nd (then_norm ?_))
  refine awp_cond rfl (fun tt0 => ?_) (fun h => by cases h)
  clear tt0
  refine awp_seq (awp_go hmix (go_run' ttok 1 rfl (go_nil nd (then_norm (awp_ret (then_ret ?_))))))
  have e2 := of_some h
  subst e2
  refine ret_ret ?_
  refine fin0 ttok rfl rfl ?_
  exact (wkP_refl _ rfl)
 ·rw [g1]
  replace h := of_bif_f h g1
  refine go_run' ttok 5 rfl ?_
  refine go_gcase rfl rfl rfl (fun g3 => ?_) (fun g3 => ?_)
  ·rw [g3]
   replace h := of_bif_t h g3
   refine go_run' ttok 11 rfl (go_nil nd (then_norm ?_))
   refine awp_cond rfl (fun tt0 => ?_) (fun h => by cases h)
   clear tt0
   refine awp_seq (awp_go hmix (go_run' ttok 1 rfl (go_nil nd (then_norm (awp_ret (then_ret ?_))))))
   have e4 := of_some h
   subst e4
   refine ret_ret ?_
   refine fin0 ttok rfl rfl ?_
   exact (wkP_refl _ rfl)
  ·rw [g3]
   replace h := of_bif_f h g3
   refine go_run' ttok 7 rfl ?_
   refine go_gcase rfl rfl rfl (fun g5 => ?_) (fun g5 => ?_)
   ·rw [g5]
    replace h := of_bif_t h g5
    refine go_run' ttok 4 rfl (go_nil nd (then_norm ?_))
    refine awp_cond rfl (fun tt0 => ?_) (fun h => by cases h)
    clear tt0
    refine awp_seq (awp_go hmix (go_run' ttok 1 rfl (go_nil nd (then_norm (awp_ret (then_ret ?_))))))
    have e6 := of_some h
    subst e6
    refine ret_ret ?_
    refine fin0 ttok rfl rfl ?_
    exact (wkP_refl _ rfl)
   ·rw [g5]
    replace h := of_bif_f h g5
    refine go_run' ttok 4 rfl (go_nil nd (then_norm ?_))
    refine awp_cond (b := (decide (600 < p.Width))) rfl (fun c7 => ?_) (fun c7 => ?_)
    ·replace h := of_bif_t h c7
     refine awp_seq (awp_go hmix (go_run' ttok 1 rfl (go_nil nd (then_norm (awp_ret (then_ret ?_))))))
     have e8 := of_some h
     subst e8
     refine ret_ret ?_
     refine fin0 ttok rfl rfl ?_
     exact (wkP_refl _ rfl)
    ·replace h := of_bif_f h c7
     refine awp_skip (then_norm (awp_seq (awp_seq (awp_go hmix (go_run' ttok 4 rfl ?_)))))
     refine go_gcase rfl rfl rfl (fun g9 => ?_) (fun g9 => ?_)
     ·rw [g9]
      replace h := of_bif_t h g9
      refine go_run' ttok 14 rfl (go_nil nd (then_norm ?_))
      refine awp_cond rfl (fun tt0 => ?_) (fun h => by cases h)
      clear tt0
      refine awp_seq (awp_go hmix (go_run' ttok 1 rfl (go_nil nd (then_norm (awp_ret (then_ret ?_))))))
      have e10 := of_some h
      subst e10
      refine ret_ret ?_
      refine fin0 ttok rfl rfl ?_
      exact (wkP_refl _ rfl)
     ·rw [g9]
      replace h := of_bif_f h g9
      refine go_run' ttok 5 rfl ?_
      refine go_gcase rfl rfl rfl (fun g11 => ?_) (fun g11 => ?_)
      ·rw [g11]
       replace h := of_bif_t h g11
       refine go_run' ttok 9 rfl (go_nil nd (then_norm ?_))
       refine awp_cond rfl (fun tt0 => ?_) (fun h => by cases h)
       clear tt0
       refine awp_seq (awp_go hmix (go_run' ttok 1 rfl (go_nil nd (then_norm (awp_ret (then_ret ?_))))))
       have e12 := of_some h
       subst e12
       refine ret_ret ?_
       refine fin0 ttok rfl rfl ?_
       exact (wkP_refl _ rfl)
      ·rw [g11]
       replace h := of_bif_f h g11
       refine go_run' ttok 5 rfl ?_
       refine go_gcase rfl rfl rfl (fun g13 => ?_) (fun g13 => ?_)
       ·rw [g13]
        replace h := of_bif_t h g13
        refine go_run' ttok 4 rfl (go_nil nd (then_norm ?_))
        refine awp_cond rfl (fun tt0 => ?_) (fun h => by cases h)
        clear tt0
        refine awp_seq (awp_go hmix (go_run' ttok 1 rfl (go_nil nd (then_norm (awp_ret (then_ret ?_))))))
        have e14 := of_some h
        subst e14
        refine ret_ret ?_
        refine fin0 ttok rfl rfl ?_
        exact (wkP_refl _ rfl)
       ·rw [g13]
        replace h := of_bif_f h g13
        refine go_run' ttok 4 rfl (go_nil nd (then_norm ?_))
        refine awp_cond (b := (decide (1000 < p.Wane))) rfl (fun c15 => ?_) (fun c15 => ?_)
        ·replace h := of_bif_t h c15
         refine awp_seq (awp_go hmix (go_run' ttok 1 rfl (go_nil nd (then_norm (awp_ret (then_ret ?_))))))
         have e16 := of_some h
         subst e16
         refine ret_ret ?_
         refine fin0 ttok rfl rfl ?_
         exact (wkP_refl _ rfl)
        ·replace h := of_bif_f h c15
         refine awp_skip (then_norm (awp_seq (awp_seq (awp_go hmix (go_run' ttok 1 rfl ?_)))))
         obtain ⟨gv, hv17, h⟩ := of_let h
         refine go_call fn28 (product_Green_w p gv hv17) rfl rfl rfl rfl rfl rfl rfl ?_
         refine go_run' ttok 5 rfl (go_nil nd (then_norm (awp_seq (awp_go hmix (go_run' ttok 2 rfl (go_nil nd (then_norm ?_)))))))
         refine awp_cond (b := (decide (600 < gv.2))) rfl (fun c18 => ?_) (fun c18 => ?_)
         ·replace h := of_bif_t h c18
          refine awp_seq (awp_go hmix (go_run' ttok 1 rfl (go_nil nd (then_norm (awp_ret (then_ret ?_))))))
          have e19 := of_some h
          subst e19
          refine ret_ret ?_
          refine fin0 ttok rfl rfl ?_
          exact (wkP_refl _ rfl)
         ·replace h := of_bif_f h c18
          refine awp_skip (then_norm (awp_seq (awp_seq (awp_go hmix (go_run' ttok 2 rfl ?_)))))
          refine go_lenT I p.Lengths ttok rfl rfl rfl rfl rfl rfl ?_
          refine go_run' ttok 1 rfl (go_nil nd (then_norm ?_))
          refine awp_cond (b := (((p.Lengths.length : Nat) : Int) == 0)) rfl (fun c20 => ?_) (fun c20 => ?_)
          ·replace h := of_bif_t h c20
           refine awp_seq (awp_go hmix (go_run' ttok 1 rfl (go_nil nd (then_norm (awp_ret (then_ret ?_))))))
           have e21 := of_some h
           subst e21
           refine ret_ret ?_
           refine fin0 ttok rfl rfl ?_
           exact (wkP_refl _ rfl)
          ·replace h := of_bif_f h c20
           refine awp_skip (then_norm (awp_seq (awp_seq (awp_go hmix (go_run' ttok 2 rfl ?_)))))
           refine go_lenT I p.Lengths ttok rfl rfl rfl rfl rfl rfl ?_
           refine go_run' ttok 1 rfl (go_nil nd (then_norm ?_))
           refine awp_cond (b := (decide (8 < ((p.Lengths.length : Nat) : Int)))) rfl (fun c22 => ?_) (fun c22 => ?_)
           ·replace h := of_bif_t h c22
            refine awp_seq (awp_go hmix (go_run' ttok 1 rfl (go_nil nd (then_norm (awp_ret (then_ret ?_))))))
            have e23 := of_some h
            subst e23
            refine ret_ret ?_
            refine fin0 ttok rfl rfl ?_
            exact (wkP_refl _ rfl)
           ·replace h := of_bif_f h c22
            refine awp_skip (then_norm (awp_seq (awp_seq (awp_go hmix (go_run' ttok 2 rfl ?_)))))
            refine go_lenT I p.Prices ttok rfl rfl rfl rfl rfl rfl ?_
            refine go_run' ttok 2 rfl ?_
            refine go_lenT I p.Lengths ttok rfl rfl rfl rfl rfl rfl ?_
            refine go_run' ttok 1 rfl (go_nil nd (then_norm ?_))
            refine awp_cond (b := (((p.Prices.length : Nat) : Int) != ((p.Lengths.length : Nat) : Int))) rfl (fun c24 => ?_) (fun c24 => ?_)
            ·replace h := of_bif_t h c24
             refine awp_seq (awp_go hmix (go_run' ttok 1 rfl (go_nil nd (then_norm (awp_ret (then_ret ?_))))))
             have e25 := of_some h
             subst e25
             refine ret_ret ?_
             refine fin0 ttok rfl rfl ?_
             exact (wkP_refl _ rfl)
            ·replace h := of_bif_f h c24
             refine awp_skip (then_norm ?_)
             obtain ⟨y, hx26, h⟩ := of_obind h
             refine awp_seqJ (X := Unit) [1] [1] (fun _ => []) (fun _ => []) (fun w => Sum.inr w = y) rfl rfl ?_ ?_
             ·skip
              refine awp_seq (awp_go hmix (go_run' ttok 2 rfl ?_))
              refine go_lenT I p.Lengths ttok rfl rfl rfl rfl rfl rfl ?_
              refine go_run' ttok 1 rfl (go_nil nd (then_norm (awp_block ?_)))
              refine awp_loopD (X := Int) (Y := (Int ⊕ Unit)) [1, 70, 71] [1] (fun q => [(72, (I q))]) (fun q => []) (fun q => product_checkNumbers_s1 p q) 0 [(1, some 1)] hx26 ⟨rfl, rfl, rfl, rfl, rfl, ⟨wkP_id _ rfl, trivial⟩, trivial⟩ (fun vv vR vz hz28 hk29 => ?_)
              change product_checkNumbers_s1 p vv = _ at hz28
              unfold product_checkNumbers_s1 at hz28
              refine awp_seq (awp_go hmix (go_run' ttok 1 rfl (go_nil nd (then_norm (awp_seq ?_)))))
              refine awp_cond (b := (decide (vv < ((p.Lengths.length : Nat) : Int)))) rfl (fun c30 => ?_) (fun c30 => ?_)
              ·replace hz28 := of_bif_t hz28 c30
               refine awp_skip (then_norm (awp_seq (awp_block (awp_seq (awp_go hmix (go_run' ttok 1 rfl ?_))))))
               obtain ⟨e, hv31, hz28⟩ := of_obind hz28
               refine go_indexT I p.Lengths vv e hv31 ttok rfl rfl rfl rfl rfl rfl rfl rfl rfl ?_
               refine go_run' ttok 3 rfl (go_nil nd (then_norm (awp_seq (awp_seq (awp_go hmix (go_run' ttok 3 rfl ?_))))))
               refine go_gcase rfl rfl rfl (fun g32 => ?_) (fun g32 => ?_)
               ·rw [g32]
                replace hz28 := of_bif_t hz28 g32
                refine go_run' ttok 3 rfl (go_nil nd (then_norm ?_))
                refine awp_cond rfl (fun tt0 => ?_) (fun h => by cases h)
                clear tt0
                refine awp_seq (awp_go hmix (go_run' ttok 1 rfl (go_nil nd (then_norm (awp_ret (then_ret (block_ret (then_ret ?_))))))))
                obtain ⟨t, hn33, hq⟩ := of_mapr' hz28
                subst hq
                have hq : t = _ := hk29
                subst hq
                refine then_ret (block_ret ?_)
                obtain ⟨t1, hn34, hq⟩ := of_mapl' hn33
                subst hq
                have hq := of_inl h
                replace hq := of_some hq
                subst hq
                refine then_ret ?_
                have e35 := of_some hn34
                subst e35
                refine ret_ret ?_
                refine fin0 ttok rfl rfl ?_
                exact (wkP_refl _ rfl)
               ·rw [g32]
                replace hz28 := of_bif_f hz28 g32
                refine go_run' ttok 3 rfl (go_nil nd (then_norm ?_))
                refine awp_cond (b := (decide (20000 < e))) rfl (fun c36 => ?_) (fun c36 => ?_)
                ·replace hz28 := of_bif_t hz28 c36
                 refine awp_seq (awp_go hmix (go_run' ttok 1 rfl (go_nil nd (then_norm (awp_ret (then_ret (block_ret (then_ret ?_))))))))
                 obtain ⟨t2, hn37, hq⟩ := of_mapr' hz28
                 subst hq
                 have hq : t2 = _ := hk29
                 subst hq
                 refine then_ret (block_ret ?_)
                 obtain ⟨t3, hn38, hq⟩ := of_mapl' hn37
                 subst hq
                 have hq := of_inl h
                 replace hq := of_some hq
                 subst hq
                 refine then_ret ?_
                 have e39 := of_some hn38
                 subst e39
                 refine ret_ret ?_
                 refine fin0 ttok rfl rfl ?_
                 exact (wkP_refl _ rfl)
                ·replace hz28 := of_bif_f hz28 c36
                 refine awp_skip (then_norm (awp_seq (awp_go hmix (go_run' ttok 3 rfl ?_))))
                 refine go_gcase rfl rfl rfl (fun g40 => ?_) (fun g40 => ?_)
                 ·rw [g40]
                  replace hz28 := of_bif_t hz28 g40
                  refine go_run' ttok 5 rfl ?_
                  obtain ⟨e1, hv41, hz28⟩ := of_obind hz28
                  refine go_indexT I p.Lengths (W64 (vv - 1)) e1 hv41 ttok rfl rfl rfl rfl rfl rfl rfl rfl rfl ?_
                  refine go_run' ttok 3 rfl (go_nil nd (then_norm ?_))
                  refine awp_cond (b := (decide (e ≤ e1))) rfl (fun c42 => ?_) (fun c42 => ?_)
                  ·replace hz28 := of_bif_t hz28 c42
                   refine awp_seq (awp_go hmix (go_run' ttok 1 rfl (go_nil nd (then_norm (awp_ret (block_ret (then_ret ?_)))))))
                   obtain ⟨t4, hn43, hq⟩ := of_mapr' hz28
                   subst hq
                   have hq : t4 = _ := hk29
                   subst hq
                   refine then_ret (block_ret ?_)
                   obtain ⟨t5, hn44, hq⟩ := of_mapl' hn43
                   subst hq
                   have hq := of_inl h
                   replace hq := of_some hq
                   subst hq
                   refine then_ret ?_
                   have e45 := of_some hn44
                   subst e45
                   refine ret_ret ?_
                   refine fin0 ttok rfl rfl ?_
                   exact (wkP_refl _ rfl)
                  ·replace hz28 := of_bif_f hz28 c42
                   refine awp_skip (block_norm (then_norm (awp_go hmix (go_run' ttok 2 rfl (go_nil nd ?_)))))
                   have e46 := of_some hz28
                   subst e46
                   refine then_norm ⟨rfl, (W64 (vv + 1)), [(1, some 1)], ⟨rfl, rfl, rfl, rfl, rfl, ⟨wkP_id _ rfl, trivial⟩, trivial⟩, hk29⟩
                 ·rw [g40]
                  replace hz28 := of_bif_f hz28 g40
                  refine go_run' ttok 9 rfl (go_nil nd (then_norm ?_))
                  refine awp_cond rfl (fun h => by cases h) (fun tt0 => ?_)
                  clear tt0
                  refine awp_skip (block_norm (then_norm (awp_go hmix (go_run' ttok 2 rfl (go_nil nd ?_)))))
                  have e47 := of_some hz28
                  subst e47
                  refine then_norm ⟨rfl, (W64 (vv + 1)), [(1, some 1)], ⟨rfl, rfl, rfl, rfl, rfl, ⟨wkP_id _ rfl, trivial⟩, trivial⟩, hk29⟩
              ·replace hz28 := of_bif_f hz28 c30
               refine awp_exit (then_exit ?_)
               obtain ⟨t6, hn48, hq⟩ := of_mapr' hz28
               subst hq
               have hq : t6 = _ := hk29
               subst hq
               refine then_exit (block_here ?_)
               have e49 := of_some hn48
               refine then_norm ⟨rfl, (), [(1, some 1)], ⟨rfl, rfl, rfl, rfl, rfl, trivial, trivial⟩, e49⟩
             ·intro w hw27
              subst hw27
              replace h := of_inr h
              obtain ⟨y1, hx50, h⟩ := of_obind h
              refine awp_seqJ (X := Unit) [] [] (fun _ => []) (fun _ => []) (fun w1 => Sum.inr w1 = y1) rfl rfl ?_ ?_
              ·skip
               refine awp_seq (awp_go hmix (go_run' ttok 2 rfl ?_))
               refine go_lenT I p.Prices ttok rfl rfl rfl rfl rfl rfl ?_
               refine go_run' ttok 1 rfl (go_nil nd (then_norm (awp_block ?_)))
               refine awp_loopD (X := Int) (Y := (Int ⊕ Unit)) [97, 98] [] (fun q => [(99, (I q))]) (fun q => []) (fun q => product_checkNumbers_s2 p q) 0 [] hx50 ⟨rfl, rfl, rfl, rfl, rfl, ⟨wkP_id _ rfl, trivial⟩, trivial⟩ (fun vv1 vR1 vz1 hz52 hk53 => ?_)
               change product_checkNumbers_s2 p vv1 = _ at hz52
               unfold product_checkNumbers_s2 at hz52
               refine awp_seq (awp_go hmix (go_run' ttok 1 rfl (go_nil nd (then_norm (awp_seq ?_)))))
               refine awp_cond (b := (decide (vv1 < ((p.Prices.length : Nat) : Int)))) rfl (fun c54 => ?_) (fun c54 => ?_)
               ·replace hz52 := of_bif_t hz52 c54
                refine awp_skip (then_norm (awp_seq (awp_block (awp_seq (awp_go hmix ?_)))))
                obtain ⟨e2, hv55, hz52⟩ := of_obind hz52
                refine go_indexT I p.Prices vv1 e2 hv55 ttok rfl rfl rfl rfl rfl rfl rfl rfl rfl ?_
                refine go_run' ttok 2 rfl (go_nil nd (then_norm (awp_seq (awp_go hmix (go_run' ttok 3 rfl ?_)))))
                refine go_gcase rfl rfl rfl (fun g56 => ?_) (fun g56 => ?_)
                ·rw [g56]
                 replace hz52 := of_bif_t hz52 g56
                 refine go_run' ttok 3 rfl (go_nil nd (then_norm ?_))
                 refine awp_cond rfl (fun tt0 => ?_) (fun h => by cases h)
                 clear tt0
                 refine awp_seq (awp_go hmix (go_run' ttok 1 rfl (go_nil nd (then_norm (awp_ret (block_ret (then_ret ?_)))))))
                 obtain ⟨t7, hn57, hq⟩ := of_mapr' hz52
                 subst hq
                 have hq : t7 = _ := hk53
                 subst hq
                 refine then_ret (block_ret ?_)
                 obtain ⟨t8, hn58, hq⟩ := of_mapl' hn57
                 subst hq
                 have hq := of_inl h
                 replace hq := of_some hq
                 subst hq
                 refine then_ret ?_
                 have e59 := of_some hn58
                 subst e59
                 refine ret_ret ?_
                 refine fin0 ttok rfl rfl ?_
                 exact (wkP_refl _ rfl)
                ·rw [g56]
                 replace hz52 := of_bif_f hz52 g56
                 refine go_run' ttok 3 rfl (go_nil nd (then_norm ?_))
                 refine awp_cond (b := (decide (1000000 < e2))) rfl (fun c60 => ?_) (fun c60 => ?_)
                 ·replace hz52 := of_bif_t hz52 c60
                  refine awp_seq (awp_go hmix (go_run' ttok 1 rfl (go_nil nd (then_norm (awp_ret (block_ret (then_ret ?_)))))))
                  obtain ⟨t9, hn61, hq⟩ := of_mapr' hz52
                  subst hq
                  have hq : t9 = _ := hk53
                  subst hq
                  refine then_ret (block_ret ?_)
                  obtain ⟨t10, hn62, hq⟩ := of_mapl' hn61
                  subst hq
                  have hq := of_inl h
                  replace hq := of_some hq
                  subst hq
                  refine then_ret ?_
                  have e63 := of_some hn62
                  subst e63
                  refine ret_ret ?_
                  refine fin0 ttok rfl rfl ?_
                  exact (wkP_refl _ rfl)
                 ·replace hz52 := of_bif_f hz52 c60
                  refine awp_skip (block_norm (then_norm (awp_go hmix (go_run' ttok 2 rfl (go_nil nd ?_)))))
                  have e64 := of_some hz52
                  subst e64
                  refine then_norm ⟨rfl, (W64 (vv1 + 1)), [], ⟨rfl, rfl, rfl, rfl, rfl, ⟨wkP_id _ rfl, trivial⟩, trivial⟩, hk53⟩
               ·replace hz52 := of_bif_f hz52 c54
                refine awp_exit (then_exit ?_)
                obtain ⟨t11, hn65, hq⟩ := of_mapr' hz52
                subst hq
                have hq : t11 = _ := hk53
                subst hq
                refine then_exit (block_here ?_)
                have e66 := of_some hn65
                refine then_norm ⟨rfl, (), [], ⟨rfl, rfl, rfl, rfl, rfl, trivial, trivial⟩, e66⟩
              ·intro w1 hw51
               subst hw51
               replace h := of_inr h
               refine awp_seq (awp_go hmix (go_run' ttok 1 rfl (go_nil nd (then_norm (awp_ret ?_)))))
               have e67 := of_some h
               subst e67
               refine ret_ret ?_
               refine fin0 ttok rfl rfl ?_
               exact (wkP_refl _ rfl)
noncomputable def product_checkNumbers_cs1 (N : Nat) (p : TProduct) (vv : Int) : Option (Int ⊕ (Int ⊕ Unit)) :=
 (bif (decide (vv < ((p.Lengths.length : Nat) : Int))) then (Option.bind (getI p.Lengths vv) (fun e => (bif (decide (e < 100)) then some (Sum.inr (Sum.inl 9)) else (bif (decide (20000 < e)) then some (Sum.inr (Sum.inl 9)) else (bif (decide (0 < vv)) then (Option.bind (getI p.Lengths (W64 (vv - 1))) (fun e1 => (bif (decide (e ≤ e1)) then some (Sum.inr (Sum.inl 11)) else some (Sum.inl (W64 (vv + 1)))))) else some (Sum.inl (W64 (vv + 1)))))))) else some (Sum.inr (Sum.inr ())))
theorem product_checkNumbers_cs1_le (N : Nat) (p : TProduct) (vv : Int) : OLe (product_checkNumbers_cs1 N p vv) (product_checkNumbers_s1 p vv) := by
 unfold product_checkNumbers_cs1 product_checkNumbers_s1
 repeat' (first | exact ole_rfl | refine ole_bif ?_ ?_ | refine ole_bind ?_ (fun _ => ?_) | refine ole_let (fun _ => ?_) | refine ole_map ?_ | refine ole_elim (fun _ => ?_) (fun _ => ?_) | refine ole_loop (fun _ => ?_))
noncomputable def product_checkNumbers_cs2 (N : Nat) (p : TProduct) (vv1 : Int) : Option (Int ⊕ (Int ⊕ Unit)) :=
 (bif (decide (vv1 < ((p.Prices.length : Nat) : Int))) then (Option.bind (getI p.Prices vv1) (fun e2 => (bif (decide (e2 < 0)) then some (Sum.inr (Sum.inl 9)) else (bif (decide (1000000 < e2)) then some (Sum.inr (Sum.inl 9)) else some (Sum.inl (W64 (vv1 + 1))))))) else some (Sum.inr (Sum.inr ())))
theorem product_checkNumbers_cs2_le (N : Nat) (p : TProduct) (vv1 : Int) : OLe (product_checkNumbers_cs2 N p vv1) (product_checkNumbers_s2 p vv1) := by
 unfold product_checkNumbers_cs2 product_checkNumbers_s2
 repeat' (first | exact ole_rfl | exact product_checkNumbers_cs1_le _ _ _ | refine ole_bif ?_ ?_ | refine ole_bind ?_ (fun _ => ?_) | refine ole_let (fun _ => ?_) | refine ole_map ?_ | refine ole_elim (fun _ => ?_) (fun _ => ?_) | refine ole_loop (fun _ => ?_))
noncomputable def product_checkNumbers_c (N : Nat) (p : TProduct) : Option Int :=
 (bif (decide (p.Thick < 5)) then some 9 else (bif (decide (300 < p.Thick)) then some 9 else (bif (decide (p.Width < p.Thick)) then some 9 else (bif (decide (600 < p.Width)) then some 9 else (bif (decide (p.Allow < 0)) then some 9 else (bif (decide (200 < p.Allow)) then some 9 else (bif (decide (p.Wane < 0)) then some 9 else (bif (decide (1000 < p.Wane)) then some 9 else (letB (product_Green_g p) (fun gv => (bif (decide (600 < gv.2)) then some 9 else (bif (((p.Lengths.length : Nat) : Int) == 0) then some 3 else (bif (decide (8 < ((p.Lengths.length : Nat) : Int))) then some 4 else (bif (((p.Prices.length : Nat) : Int) != ((p.Lengths.length : Nat) : Int)) then some 19 else (Option.bind ((iterX N (fun q => product_checkNumbers_cs1 N p q) 0) : Option (Int ⊕ Unit)) (Sum.elim (fun q => some q) (fun _ => (Option.bind ((iterX N (fun q => product_checkNumbers_cs2 N p q) 0) : Option (Int ⊕ Unit)) (Sum.elim (fun q => some q) (fun _ => some 0))))))))))))))))))))
theorem product_checkNumbers_le (N : Nat) (p : TProduct) : OLe (product_checkNumbers_c N p) (product_checkNumbers_g p) := by
 unfold product_checkNumbers_c product_checkNumbers_g
 repeat' (first | exact ole_rfl | exact product_checkNumbers_cs1_le _ _ _ | exact product_checkNumbers_cs2_le _ _ _ | refine ole_bif ?_ ?_ | refine ole_bind ?_ (fun _ => ?_) | refine ole_let (fun _ => ?_) | refine ole_map ?_ | refine ole_elim (fun _ => ?_) (fun _ => ?_) | refine ole_loop (fun _ => ?_))
noncomputable def product_Check_s1 (l : (List TProduct)) (vv : Int) : Option (Int ⊕ (Int ⊕ Unit)) :=
 (bif (decide (vv < ((l.length : Nat) : Int))) then (Option.bind (getI l vv) (fun e => (Option.bind (ident_IsName_g e.Name) (fun iv => (bif (!iv) then some (Sum.inr (Sum.inl 6)) else (Option.bind (subO l 0 vv) (fun l1 => (Option.bind (product_Find_g l1 e.Name) (fun fv => (bif fv.2 then some (Sum.inr (Sum.inl 7)) else (Option.bind (product_checkNumbers_g e) (fun cv => (bif (cv != 0) then some (Sum.inr (Sum.inl cv)) else some (Sum.inl (W64 (vv + 1)))))))))))))))) else some (Sum.inr (Sum.inr ())))
noncomputable def product_Check_g (l : (List TProduct)) : Option Int :=
 (bif (decide (16 < ((l.length : Nat) : Int))) then some 4 else (Option.bind ((loopO (fun q => product_Check_s1 l q) 0) : Option (Int ⊕ Unit)) (Sum.elim (fun q => some q) (fun _ => some 0))))
theorem product_Check_w (l : (List TProduct)) (r : Int) (h : product_Check_g l = some r) : Holds Tryz.prog 22 [((encL encTProduct) l)] [] (I r) [] := by
 unfold product_Check_g at h
 refine holds_fn Tryz.func22 rfl Tryz.ntmps22 rfl rfl rfl (fun lim => ?_)
 refine awp_seq (awp_go hmix (go_run' ttok 1 rfl (go_nil nd (then_norm (awp_seq (awp_seq (awp_go hmix (go_run' ttok 1 rfl ?_))))))))
 refine go_lenT encTProduct l ttok rfl rfl rfl rfl rfl rfl ?_
 refine go_run' ttok 1 rfl (go_nil nd (then_norm ?_))
 refine awp_cond (b := (decide (16 < ((l.length : Nat) : Int)))) rfl (fun c1 => ?_) (fun c1 => ?_)
 ·replace h := of_bif_t h c1
  refine awp_seq (awp_go hmix (go_run' ttok 1 rfl (go_nil nd (then_norm (awp_ret (then_ret ?_))))))
  have e2 := of_some h
  subst e2
  refine ret_ret ?_
  refine fin0 ttok rfl rfl ?_
  exact (wkP_refl _ rfl)
 ·replace h := of_bif_f h c1
  refine awp_skip (then_norm ?_)
  obtain ⟨y, hx3, h⟩ := of_obind h
  refine awp_seqJ (X := Unit) [] [] (fun _ => []) (fun _ => []) (fun w => Sum.inr w = y) rfl rfl ?_ ?_
  ·skip
   refine awp_seq (awp_go hmix (go_run' ttok 1 rfl ?_))
   refine go_lenT encTProduct l ttok rfl rfl rfl rfl rfl rfl ?_
   refine go_run' ttok 1 rfl (go_nil nd (then_norm (awp_block ?_)))
   refine awp_loopD (X := Int) (Y := (Int ⊕ Unit)) [0, 11, 12] [] (fun q => [(13, (I q))]) (fun q => []) (fun q => product_Check_s1 l q) 0 [] hx3 ⟨rfl, rfl, rfl, rfl, rfl, ⟨wkP_id _ rfl, trivial⟩, trivial⟩ (fun vv vR vz hz5 hk6 => ?_)
   change product_Check_s1 l vv = _ at hz5
   unfold product_Check_s1 at hz5
   refine awp_seq (awp_go hmix (go_run' ttok 1 rfl (go_nil nd (then_norm (awp_seq ?_)))))
   refine awp_cond (b := (decide (vv < ((l.length : Nat) : Int)))) rfl (fun c7 => ?_) (fun c7 => ?_)
   ·replace hz5 := of_bif_t hz5 c7
    refine awp_skip (then_norm (awp_seq (awp_block (awp_seq (awp_go hmix (go_run' ttok 1 rfl ?_))))))
    obtain ⟨e, hv8, hz5⟩ := of_obind hz5
    refine go_indexT encTProduct l vv e hv8 ttok rfl rfl rfl rfl rfl rfl rfl rfl rfl ?_
    refine go_run' ttok 4 rfl (go_nil nd (then_norm (awp_seq (awp_seq (awp_go hmix (go_run' ttok 2 rfl ?_))))))
    obtain ⟨iv, hv9, hz5⟩ := of_obind hz5
    refine go_call fn25 (ident_IsName_w e.Name iv hv9) rfl rfl rfl rfl rfl rfl rfl ?_
    refine go_run' ttok 1 rfl (go_nil nd (then_norm ?_))
    refine awp_cond (b := (!iv)) rfl (fun c10 => ?_) (fun c10 => ?_)
    ·replace hz5 := of_bif_t hz5 c10
     refine awp_seq (awp_go hmix (go_run' ttok 1 rfl (go_nil nd (then_norm (awp_ret (then_ret (block_ret (then_ret ?_))))))))
     obtain ⟨t, hn11, hq⟩ := of_mapr' hz5
     subst hq
     have hq : t = _ := hk6
     subst hq
     refine then_ret (block_ret ?_)
     obtain ⟨t1, hn12, hq⟩ := of_mapl' hn11
     subst hq
     have hq := of_inl h
     replace hq := of_some hq
     subst hq
     refine then_ret ?_
     have e13 := of_some hn12
     subst e13
     refine ret_ret ?_
     refine fin0 ttok rfl rfl ?_
     exact (wkP_refl _ rfl)
    ·replace hz5 := of_bif_f hz5 c10
     refine awp_skip (then_norm (awp_seq (awp_seq (awp_go hmix (go_run' ttok 2 rfl ?_)))))
     obtain ⟨l1, hv14, hz5⟩ := of_obind hz5
     refine go_sliceT encTProduct l l1 0 vv hv14 (fun _ => rfl) ttok rfl rfl rfl rfl rfl rfl rfl ⟨_, rfl⟩ rfl ?_
     refine go_run' ttok 2 rfl ?_
     obtain ⟨fv, hv15, hz5⟩ := of_obind hz5
     refine go_call fn73 (product_Find_w l1 e.Name fv hv15) rfl rfl rfl rfl rfl rfl rfl ?_
     refine go_run' ttok 5 rfl ?_
     refine go_nil (fun _ => by kernel_rfl) ?_
     refine then_norm (awp_seq (awp_go hmix (go_run' ttok 1 rfl (go_nil nd (then_norm ?_)))))
     refine awp_cond (b := fv.2) rfl (fun c16 => ?_) (fun c16 => ?_)
     ·replace hz5 := of_bif_t hz5 c16
      refine awp_seq (awp_go hmix (go_run' ttok 1 rfl (go_nil nd (then_norm (awp_ret (then_ret (block_ret (then_ret ?_))))))))
      obtain ⟨t2, hn17, hq⟩ := of_mapr' hz5
      subst hq
      have hq : t2 = _ := hk6
      subst hq
      refine then_ret (block_ret ?_)
      obtain ⟨t3, hn18, hq⟩ := of_mapl' hn17
      subst hq
      have hq := of_inl h
      replace hq := of_some hq
      subst hq
      refine then_ret ?_
      have e19 := of_some hn18
      subst e19
      refine ret_ret ?_
      refine fin0 ttok rfl rfl ?_
      exact (wkP_refl _ rfl)
     ·replace hz5 := of_bif_f hz5 c16
      refine awp_skip (then_norm (awp_seq (awp_go hmix (go_run' ttok 1 rfl ?_))))
      obtain ⟨cv, hv20, hz5⟩ := of_obind hz5
      refine go_call fn74 (product_checkNumbers_w e cv hv20) rfl rfl rfl rfl rfl rfl rfl ?_
      refine go_run' ttok 1 rfl (go_nil nd (then_norm (awp_seq (awp_go hmix (go_run' ttok 2 rfl (go_nil nd (then_norm ?_)))))))
      refine awp_cond (b := (cv != 0)) rfl (fun c21 => ?_) (fun c21 => ?_)
      ·replace hz5 := of_bif_t hz5 c21
       refine awp_seq (awp_go hmix (go_run' ttok 2 rfl (go_nil nd (then_norm (awp_ret (block_ret (then_ret ?_)))))))
       obtain ⟨t4, hn22, hq⟩ := of_mapr' hz5
       subst hq
       have hq : t4 = _ := hk6
       subst hq
       refine then_ret (block_ret ?_)
       obtain ⟨t5, hn23, hq⟩ := of_mapl' hn22
       subst hq
       have hq := of_inl h
       replace hq := of_some hq
       subst hq
       refine then_ret ?_
       have e24 := of_some hn23
       subst e24
       refine ret_ret ?_
       refine fin0 ttok rfl rfl ?_
       exact (wkP_refl _ rfl)
      ·replace hz5 := of_bif_f hz5 c21
       refine awp_skip (block_norm (then_norm (awp_go hmix (go_run' ttok 2 rfl (go_nil nd ?_)))))
       have e25 := of_some hz5
       subst e25
       refine then_norm ⟨rfl, (W64 (vv + 1)), [], ⟨rfl, rfl, rfl, rfl, rfl, ⟨wkP_id _ rfl, trivial⟩, trivial⟩, hk6⟩
   ·replace hz5 := of_bif_f hz5 c7
    refine awp_exit (then_exit ?_)
    obtain ⟨t6, hn26, hq⟩ := of_mapr' hz5
    subst hq
    have hq : t6 = _ := hk6
    subst hq
    refine then_exit (block_here ?_)
    have e27 := of_some hn26
    refine then_norm ⟨rfl, (), [], ⟨rfl, rfl, rfl, rfl, rfl, trivial, trivial⟩, e27⟩
  ·intro w hw4
   subst hw4
   replace h := of_inr h
   refine awp_seq (awp_go hmix (go_run' ttok 1 rfl (go_nil nd (then_norm (awp_ret ?_)))))
   have e28 := of_some h
   subst e28
   refine ret_ret ?_
   refine fin0 ttok rfl rfl ?_
   exact (wkP_refl _ rfl)
noncomputable def product_Check_cs1 (N : Nat) (l : (List TProduct)) (vv : Int) : Option (Int ⊕ (Int ⊕ Unit)) :=
 (bif (decide (vv < ((l.length : Nat) : Int))) then (Option.bind (getI l vv) (fun e => (Option.bind ((ident_IsName_c N) e.Name) (fun iv => (bif (!iv) then some (Sum.inr (Sum.inl 6)) else (Option.bind (subO l 0 vv) (fun l1 => (Option.bind ((product_Find_c N) l1 e.Name) (fun fv => (bif fv.2 then some (Sum.inr (Sum.inl 7)) else (Option.bind ((product_checkNumbers_c N) e) (fun cv => (bif (cv != 0) then some (Sum.inr (Sum.inl cv)) else some (Sum.inl (W64 (vv + 1)))))))))))))))) else some (Sum.inr (Sum.inr ())))
theorem product_Check_cs1_le (N : Nat) (l : (List TProduct)) (vv : Int) : OLe (product_Check_cs1 N l vv) (product_Check_s1 l vv) := by
 unfold product_Check_cs1 product_Check_s1
 repeat' (first | exact ole_rfl | exact ident_IsName_le _ _ | exact product_Find_le _ _ _ | exact product_checkNumbers_le _ _ | refine ole_bif ?_ ?_ | refine ole_bind ?_ (fun _ => ?_) | refine ole_let (fun _ => ?_) | refine ole_map ?_ | refine ole_elim (fun _ => ?_) (fun _ => ?_) | refine ole_loop (fun _ => ?_))
noncomputable def product_Check_c (N : Nat) (l : (List TProduct)) : Option Int :=
 (bif (decide (16 < ((l.length : Nat) : Int))) then some 4 else (Option.bind ((iterX N (fun q => product_Check_cs1 N l q) 0) : Option (Int ⊕ Unit)) (Sum.elim (fun q => some q) (fun _ => some 0))))
theorem product_Check_le (N : Nat) (l : (List TProduct)) : OLe (product_Check_c N l) (product_Check_g l) := by
 unfold product_Check_c product_Check_g
 repeat' (first | exact ole_rfl | exact ident_IsName_le _ _ | exact product_Find_le _ _ _ | exact product_checkNumbers_le _ _ | exact product_Check_cs1_le _ _ _ | refine ole_bif ?_ ?_ | refine ole_bind ?_ (fun _ => ?_) | refine ole_let (fun _ => ?_) | refine ole_map ?_ | refine ole_elim (fun _ => ?_) (fun _ => ?_) | refine ole_loop (fun _ => ?_))
noncomputable def ident_isCapital_g (c : Int) : Bool :=
 (bif (decide (65 ≤ c)) then (decide (c ≤ 90)) else false)
theorem ident_isCapital_w (c : Int) (r : Bool) (h : ident_isCapital_g c = r) : Holds Tryz.prog 160 [(U8 c)] [] (B r) [] := by
 unfold ident_isCapital_g at h
 refine holds_fn Tryz.func160 rfl Tryz.ntmps160 rfl rfl rfl (fun lim => ?_)
 refine awp_seq (awp_go hmix (go_run' ttok 1 rfl (go_nil nd (then_norm (awp_seq (awp_go hmix (go_run' ttok 3 rfl ?_)))))))
 refine go_gcase rfl rfl rfl (fun g1 => ?_) (fun g1 => ?_)
 ·rw [g1]
  replace h := of_bif_t h g1
  refine go_run' ttok 4 rfl (go_nil nd (then_norm (awp_ret ?_)))
  have e2 := h
  subst e2
  refine ret_ret ?_
  refine fin0 ttok rfl rfl ?_
  exact (wkP_refl _ rfl)
 ·rw [g1]
  replace h := of_bif_f h g1
  refine go_run' ttok 4 rfl (go_nil nd (then_norm (awp_ret ?_)))
  have e3 := h
  subst e3
  refine ret_ret ?_
  refine fin0 ttok rfl rfl ?_
  exact (wkP_refl _ rfl)
noncomputable def ident_parts_g : (List Tident_part) :=
 [(⟨0, 1, 160, 10⟩ : Tident_part), (⟨1, 7, 78, 5⟩ : Tident_part)]
theorem ident_parts_w (r : (List Tident_part)) (h : ident_parts_g = r) : Holds Tryz.prog 126 [] [] ((encL encTident_part) r) [] := by
 unfold ident_parts_g at h
 refine holds_fn Tryz.func126 rfl Tryz.ntmps126 rfl rfl rfl (fun lim => ?_)
 refine awp_seq (awp_go hmix (go_run' ttok 1 rfl (go_nil nd (then_norm (awp_seq (awp_go hmix (go_run' ttok 4 rfl (go_nil nd (then_norm ?_)))))))))
 refine awp_freezeM [] [] [(3, some ⟨172, 4, ([(⟨0, 1, 160, 10⟩ : Tident_part), (⟨1, 7, 78, 5⟩ : Tident_part)]).map encTident_part⟩)] [] [(0, (encL encTident_part ([(⟨0, 1, 160, 10⟩ : Tident_part), (⟨1, 7, 78, 5⟩ : Tident_part)])))] [] rfl rfl rfl rfl rfl ⟨rfl, by decide, trivial⟩ ⟨(wkP_lend rfl (by first | rfl | (simp [setI]; done) | omega | (dsimp only; omega) | (simp [setI]; omega)) (fun _ => rfl)), trivial⟩ trivial ?_
 refine awp_ret ?_
 have e1 := h
 subst e1
 refine ret_ret ?_
 refine fin0 ttok rfl rfl ?_
 exact (wkP_refl _ rfl)
noncomputable def ident_Letter_s1 (s : ByteArray) (vsum1 : Int) (i : Int) : Option ((Int × Int) ⊕ Int) :=
 (bif (decide (i < ((s.size : Nat) : Int))) then (Option.bind (bytO s i) (fun c => some (Sum.inl ((Int.tmod (W64 (vsum1 + (W64 ((W64 (i + 1)) * (W64 c))))) 23), (W64 (i + 1)))))) else some (Sum.inr vsum1))
noncomputable def ident_Letter_g (s : ByteArray) : Option Int :=
 (Option.bind ((loopO (fun q => ident_Letter_s1 s q.1 q.2) (0, 0)) : Option Int) (fun vsum => some (WU8 (65 + (WU8 vsum)))))
theorem ident_Letter_w (s : ByteArray) (r : Int) (h : ident_Letter_g s = some r) : Holds Tryz.prog 127 [(S s)] [] (U8 r) [] := by
 unfold ident_Letter_g at h
 refine holds_fn Tryz.func127 rfl Tryz.ntmps127 rfl rfl rfl (fun lim => ?_)
 refine awp_seq (awp_go hmix (go_run' ttok 1 rfl (go_nil nd (then_norm (awp_seq (awp_go hmix (go_run' ttok 1 rfl (go_nil nd (then_norm ?_)))))))))
 obtain ⟨y, hx1, h⟩ := of_obind h
 refine awp_seqJ (X := Int) [] [] (fun w => [(3, (I w))]) (fun w => []) (fun w => w = y) rfl rfl ?_ ?_
 ·skip
  refine awp_seq (awp_go hmix (go_run' ttok 1 rfl (go_nil nd (then_norm (awp_block ?_)))))
  refine awp_loopD (X := (Int × Int)) (Y := Int) [0] [] (fun q => [(3, (I q.1)), (4, (I q.2))]) (fun q => []) (fun q => ident_Letter_s1 s q.1 q.2) (0, 0) [] hx1 ⟨rfl, rfl, rfl, rfl, rfl, ⟨wkP_id _ rfl, wkP_id _ rfl, trivial⟩, trivial⟩ (fun x vR vz hz3 hk4 => ?_)
  obtain ⟨vsum1, i⟩ := x
  change ident_Letter_s1 s vsum1 i = _ at hz3
  unfold ident_Letter_s1 at hz3
  refine awp_seq (awp_seq (awp_go hmix (go_run' ttok 4 rfl (go_nil nd (then_norm ?_)))))
  refine awp_cond (b := (decide (i < ((s.size : Nat) : Int)))) rfl (fun c5 => ?_) (fun c5 => ?_)
  ·replace hz3 := of_bif_t hz3 c5
   refine awp_skip (then_norm (awp_seq (awp_block (awp_go hmix (go_run' ttok 5 rfl ?_)))))
   obtain ⟨c, hv6, hz3⟩ := of_obind hz3
   refine go_indexB s i c hv6 ttok rfl rfl rfl rfl rfl rfl rfl ?_
   refine go_run' ttok 5 rfl (go_nil nd (block_norm (then_norm (awp_go hmix (go_run' ttok 3 rfl (go_nil nd ?_))))))
   have e7 := of_some hz3
   subst e7
   refine then_norm ⟨rfl, ((Int.tmod (W64 (vsum1 + (W64 ((W64 (i + 1)) * (W64 c))))) 23), (W64 (i + 1))), [], ⟨rfl, rfl, rfl, rfl, rfl, ⟨wkP_id _ rfl, wkP_id _ rfl, trivial⟩, trivial⟩, hk4⟩
  ·replace hz3 := of_bif_f hz3 c5
   refine awp_exit (then_exit ?_)
   obtain ⟨t, hn8, hq⟩ := of_mapr' hz3
   subst hq
   have hq : t = _ := hk4
   subst hq
   refine then_exit (block_here ?_)
   have e9 := of_some hn8
   refine then_norm ⟨rfl, vsum1, [], ⟨rfl, rfl, rfl, rfl, rfl, ⟨wkP_id _ rfl, trivial⟩, trivial⟩, e9⟩
 ·intro vsum hw2
  subst hw2
  refine awp_seq (awp_go hmix (go_run' ttok 4 rfl (go_nil nd (then_norm (awp_ret ?_)))))
  have e10 := of_some h
  subst e10
  refine ret_ret ?_
  refine fin0 ttok rfl rfl ?_
  exact (wkP_refl _ rfl)
noncomputable def ident_Letter_cs1 (N : Nat) (s : ByteArray) (vsum1 : Int) (i : Int) : Option ((Int × Int) ⊕ Int) :=
 (bif (decide (i < ((s.size : Nat) : Int))) then (Option.bind (bytO s i) (fun c => some (Sum.inl ((Int.tmod (W64 (vsum1 + (W64 ((W64 (i + 1)) * (W64 c))))) 23), (W64 (i + 1)))))) else some (Sum.inr vsum1))
theorem ident_Letter_cs1_le (N : Nat) (s : ByteArray) (vsum1 : Int) (i : Int) : OLe (ident_Letter_cs1 N s vsum1 i) (ident_Letter_s1 s vsum1 i) := by
 unfold ident_Letter_cs1 ident_Letter_s1
 repeat' (first | exact ole_rfl | refine ole_bif ?_ ?_ | refine ole_bind ?_ (fun _ => ?_) | refine ole_let (fun _ => ?_) | refine ole_map ?_ | refine ole_elim (fun _ => ?_) (fun _ => ?_) | refine ole_loop (fun _ => ?_))
noncomputable def ident_Letter_c (N : Nat) (s : ByteArray) : Option Int :=
 (Option.bind ((iterX N (fun q => ident_Letter_cs1 N s q.1 q.2) (0, 0)) : Option Int) (fun vsum => some (WU8 (65 + (WU8 vsum)))))
theorem ident_Letter_le (N : Nat) (s : ByteArray) : OLe (ident_Letter_c N s) (ident_Letter_g s) := by
 unfold ident_Letter_c ident_Letter_g
 repeat' (first | exact ole_rfl | exact ident_Letter_cs1_le _ _ _ _ | refine ole_bif ?_ ?_ | refine ole_bind ?_ (fun _ => ?_) | refine ole_let (fun _ => ?_) | refine ole_map ?_ | refine ole_elim (fun _ => ?_) (fun _ => ?_) | refine ole_loop (fun _ => ?_))
noncomputable def ident_Split_s2 (s : ByteArray) (e : Tident_part) (i : Int) : Option (Int ⊕ ((Int ⊕ ((Int × Int × Int) ⊕ Unit)) ⊕ Unit)) :=
 (bif (decide (i < e.until_)) then (Option.bind (bytO s i) (fun c => (bif Nat.beq e.ok 78 then (bif (!(ident_isDigit_g c)) then some (Sum.inr (Sum.inl (Sum.inr (Sum.inl (0, 0, e.e))))) else some (Sum.inl (W64 (i + 1)))) else (bif Nat.beq e.ok 160 then (bif (!(ident_isCapital_g c)) then some (Sum.inr (Sum.inl (Sum.inr (Sum.inl (0, 0, e.e))))) else some (Sum.inl (W64 (i + 1)))) else none)))) else some (Sum.inr (Sum.inr ())))
noncomputable def ident_Split_s1 (s : ByteArray) (pv : (List Tident_part)) (vv : Int) : Option (Int ⊕ ((Int × Int × Int) ⊕ Unit)) :=
 (bif (decide (vv < ((pv.length : Nat) : Int))) then (Option.bind ((Option.bind (getI pv vv) (fun e => (loopO (fun q => ident_Split_s2 s e q) e.from_))) : Option ((Int ⊕ ((Int × Int × Int) ⊕ Unit)) ⊕ Unit)) (Sum.elim (fun q => some q) (fun _ => some (Sum.inl (W64 (vv + 1)))))) else some (Sum.inr (Sum.inr ())))
noncomputable def ident_Split_s3 (s : ByteArray) (n1 : Int) (i1 : Int) : Option ((Int × Int) ⊕ Int) :=
 (bif (decide (i1 ≤ 6)) then (Option.bind (bytO s i1) (fun c2 => some (Sum.inl ((W64 ((W64 (n1 * 10)) + (W64 (WU8 (c2 - 48))))), (W64 (i1 + 1)))))) else some (Sum.inr n1))
noncomputable def ident_Split_g (s : ByteArray) : Option (Int × Int × Int) :=
 (bif (((s.size : Nat) : Int) != 8) then some (0, 0, 3) else (Option.bind ((letB ident_parts_g (fun pv => (loopO (fun q => ident_Split_s1 s pv q) 0))) : Option ((Int × Int × Int) ⊕ Unit)) (Sum.elim (fun q => some q) (fun _ => (Option.bind (ssubO s 0 7) (fun t10 => (Option.bind (ident_Letter_g t10) (fun lv => (Option.bind (bytO s 7) (fun c1 => (bif (lv != c1) then some (0, 0, 16) else (Option.bind ((loopO (fun q => ident_Split_s3 s q.1 q.2) (0, 1)) : Option Int) (fun n => (Option.bind (bytO s 0) (fun c3 => some (c3, n, 0))))))))))))))))
theorem ident_Split_w (s : ByteArray) (r : (Int × Int × Int)) (h : ident_Split_g s = some r) : Holds Tryz.prog 76 [(S s)] [] (.tup [(U8 r.1), (I r.2.1), (I r.2.2)]) [] := by
 unfold ident_Split_g at h
 refine holds_fn Tryz.func76 rfl Tryz.ntmps76 rfl rfl rfl (fun lim => ?_)
 refine awp_seq (awp_go hmix (go_run' ttok 3 rfl (go_nil nd (then_norm (awp_seq (awp_seq (awp_go hmix (go_run' ttok 3 rfl (go_nil nd (then_norm ?_))))))))))
 refine awp_cond (b := (((s.size : Nat) : Int) != 8)) rfl (fun c1 => ?_) (fun c1 => ?_)
 ·replace h := of_bif_t h c1
  refine awp_seq (awp_go hmix (go_run' ttok 3 rfl (go_nil nd (then_norm (awp_ret (then_ret ?_))))))
  have e2 := of_some h
  subst e2
  refine ret_ret ?_
  refine fin0 ttok rfl rfl ?_
  exact wkP_refl _ rfl
 ·replace h := of_bif_f h c1
  refine awp_skip (then_norm ?_)
  obtain ⟨y, hx3, h⟩ := of_obind h
  refine awp_seqJ (X := Unit) [0] [] (fun _ => []) (fun _ => []) (fun w => Sum.inr w = y) rfl rfl ?_ ?_
  ·skip
   refine awp_seq (awp_go hmix ?_)
   obtain ⟨pv, hv5, hx3⟩ := of_let hx3
   refine go_call fn126 (ident_parts_w pv hv5) rfl rfl rfl rfl rfl rfl rfl ?_
   refine go_lenT encTident_part pv ttok rfl rfl rfl rfl rfl rfl ?_
   refine go_run' ttok 1 rfl (go_nil nd (then_norm (awp_block ?_)))
   refine awp_loopD (X := Int) (Y := ((Int × Int × Int) ⊕ Unit)) [0, 13, 14] [] (fun q => [(15, (I q))]) (fun q => []) (fun q => ident_Split_s1 s pv q) 0 [] hx3 ⟨rfl, rfl, rfl, rfl, rfl, ⟨wkP_id _ rfl, trivial⟩, trivial⟩ (fun vv vR vz hz6 hk7 => ?_)
   change ident_Split_s1 s pv vv = _ at hz6
   unfold ident_Split_s1 at hz6
   refine awp_seq (awp_go hmix (go_run' ttok 1 rfl (go_nil nd (then_norm (awp_seq ?_)))))
   refine awp_cond (b := (decide (vv < ((pv.length : Nat) : Int)))) rfl (fun c8 => ?_) (fun c8 => ?_)
   ·replace hz6 := of_bif_t hz6 c8
    refine awp_skip (then_norm ?_)
    obtain ⟨y1, hx9, hz6⟩ := of_obind hz6
    refine awp_seqJ (X := Unit) [0, 13, 14, 15] [] (fun _ => []) (fun _ => []) (fun w1 => Sum.inr w1 = y1) rfl rfl ?_ ?_
    ·skip
     refine awp_block (awp_seq (awp_go hmix ?_))
     obtain ⟨e, hv11, hx9⟩ := of_obind hx9
     refine go_indexT encTident_part pv vv e hv11 ttok rfl rfl rfl rfl rfl rfl rfl rfl rfl ?_
     refine go_run' ttok 3 rfl (go_nil nd (then_norm (awp_seq (awp_go hmix (go_run' ttok 3 rfl (go_nil nd (then_norm (awp_block ?_))))))))
     refine awp_loopD (X := Int) (Y := ((Int ⊕ ((Int × Int × Int) ⊕ Unit)) ⊕ Unit)) [0, 6, 13, 14, 15] [6] (fun q => [(7, (I q))]) (fun q => []) (fun q => ident_Split_s2 s e q) e.from_ [(6, some 6)] hx9 ⟨rfl, rfl, rfl, rfl, rfl, ⟨wkP_id _ rfl, trivial⟩, trivial⟩ (fun i vR1 vz1 hz12 hk13 => ?_)
     change ident_Split_s2 s e i = _ at hz12
     unfold ident_Split_s2 at hz12
     refine awp_seq (awp_seq (awp_go hmix (go_run' ttok 4 rfl (go_nil nd (then_norm ?_)))))
     refine awp_cond (b := (decide (i < e.until_))) rfl (fun c14 => ?_) (fun c14 => ?_)
     ·replace hz12 := of_bif_t hz12 c14
      refine awp_skip (then_norm (awp_seq (awp_block (awp_seq (awp_go hmix (go_run' ttok 4 rfl ?_))))))
      obtain ⟨c, hv15, hz12⟩ := of_obind hz12
      refine go_indexB s i c hv15 ttok rfl rfl rfl rfl rfl rfl rfl ?_
      rcases Bool.eq_false_or_eq_true (Nat.beq e.ok 78) with g16 | g16
      ·replace hz12 := of_bif_t hz12 g16
       refine go_callC (L := []) fn78 (ident_isDigit_w c _ rfl) rfl rfl (congrArg (fun q => AV.clo q [] []) (Nat.eq_of_beq_eq_true g16)) rfl rfl trivial ⟨(wkP_refl _ rfl), trivial⟩ rfl rfl (fun h => absurd rfl h) rfl ?_
       refine go_run' ttok 1 rfl ?_
       refine go_nil (fun _ => by kernel_rfl) ?_
       refine then_norm ?_
       refine awp_cond (b := (!(ident_isDigit_g c))) rfl (fun c17 => ?_) (fun c17 => ?_)
       ·replace hz12 := of_bif_t hz12 c17
        refine awp_seq (awp_go hmix (go_run' ttok 5 rfl ?_))
        refine go_nil (fun _ => by kernel_rfl) ?_
        refine then_norm (awp_ret (block_ret (then_ret ?_)))
        obtain ⟨t, hn18, hq⟩ := of_mapr' hz12
        subst hq
        have hq : t = _ := hk13
        subst hq
        refine then_ret (block_ret (block_ret ?_))
        obtain ⟨t1, hn19, hq⟩ := of_mapl' hn18
        subst hq
        have hq := of_inl hz6
        replace hq := of_some hq
        subst hq
        refine then_ret ?_
        obtain ⟨t2, hn20, hq⟩ := of_mapr' hn19
        subst hq
        have hq : t2 = _ := hk7
        subst hq
        refine then_ret (block_ret ?_)
        obtain ⟨t3, hn21, hq⟩ := of_mapl' hn20
        subst hq
        have hq := of_inl h
        replace hq := of_some hq
        subst hq
        refine then_ret ?_
        have e22 := of_some hn21
        subst e22
        refine ret_ret ?_
        refine fin0 ttok rfl rfl ?_
        exact wkP_refl _ rfl
       ·replace hz12 := of_bif_f hz12 c17
        refine awp_skip (block_norm (then_norm (awp_go hmix (go_run' ttok 3 rfl (go_nil nd ?_)))))
        have e23 := of_some hz12
        subst e23
        refine then_norm ⟨rfl, (W64 (i + 1)), [(6, some 6)], ⟨rfl, rfl, rfl, rfl, rfl, ⟨wkP_id _ rfl, trivial⟩, trivial⟩, hk13⟩
      ·replace hz12 := of_bif_f hz12 g16
       rcases Bool.eq_false_or_eq_true (Nat.beq e.ok 160) with g24 | g24
       ·replace hz12 := of_bif_t hz12 g24
        refine go_callC (L := []) fn160 (ident_isCapital_w c _ rfl) rfl rfl (congrArg (fun q => AV.clo q [] []) (Nat.eq_of_beq_eq_true g24)) rfl rfl trivial ⟨(wkP_refl _ rfl), trivial⟩ rfl rfl (fun h => absurd rfl h) rfl ?_
        refine go_run' ttok 1 rfl ?_
        refine go_nil (fun _ => by kernel_rfl) ?_
        refine then_norm ?_
        refine awp_cond (b := (!(ident_isCapital_g c))) rfl (fun c25 => ?_) (fun c25 => ?_)
        ·replace hz12 := of_bif_t hz12 c25
         refine awp_seq (awp_go hmix (go_run' ttok 5 rfl ?_))
         refine go_nil (fun _ => by kernel_rfl) ?_
         refine then_norm (awp_ret (block_ret (then_ret ?_)))
         obtain ⟨t4, hn26, hq⟩ := of_mapr' hz12
         subst hq
         have hq : t4 = _ := hk13
         subst hq
         refine then_ret (block_ret (block_ret ?_))
         obtain ⟨t5, hn27, hq⟩ := of_mapl' hn26
         subst hq
         have hq := of_inl hz6
         replace hq := of_some hq
         subst hq
         refine then_ret ?_
         obtain ⟨t6, hn28, hq⟩ := of_mapr' hn27
         subst hq
         have hq : t6 = _ := hk7
         subst hq
         refine then_ret (block_ret ?_)
         obtain ⟨t7, hn29, hq⟩ := of_mapl' hn28
         subst hq
         have hq := of_inl h
         replace hq := of_some hq
         subst hq
         refine then_ret ?_
         have e30 := of_some hn29
         subst e30
         refine ret_ret ?_
         refine fin0 ttok rfl rfl ?_
         exact wkP_refl _ rfl
        ·replace hz12 := of_bif_f hz12 c25
         refine awp_skip (block_norm (then_norm (awp_go hmix (go_run' ttok 3 rfl (go_nil nd ?_)))))
         have e31 := of_some hz12
         subst e31
         refine then_norm ⟨rfl, (W64 (i + 1)), [(6, some 6)], ⟨rfl, rfl, rfl, rfl, rfl, ⟨wkP_id _ rfl, trivial⟩, trivial⟩, hk13⟩
       ·replace hz12 := of_bif_f hz12 g24
        cases hz12
     ·replace hz12 := of_bif_f hz12 c14
      refine awp_exit (then_exit ?_)
      obtain ⟨t8, hn32, hq⟩ := of_mapr' hz12
      subst hq
      have hq : t8 = _ := hk13
      subst hq
      refine then_exit (block_here (block_norm ?_))
      have e33 := of_some hn32
      refine then_norm ⟨rfl, (), [], ⟨rfl, rfl, rfl, rfl, rfl, trivial, trivial⟩, e33⟩
    ·intro w1 hw10
     subst hw10
     replace hz6 := of_inr hz6
     refine awp_go hmix (go_run' ttok 2 rfl (go_nil nd ?_))
     have e34 := of_some hz6
     subst e34
     refine then_norm ⟨rfl, (W64 (vv + 1)), [], ⟨rfl, rfl, rfl, rfl, rfl, ⟨wkP_id _ rfl, trivial⟩, trivial⟩, hk7⟩
   ·replace hz6 := of_bif_f hz6 c8
    refine awp_exit (then_exit ?_)
    obtain ⟨t9, hn35, hq⟩ := of_mapr' hz6
    subst hq
    have hq : t9 = _ := hk7
    subst hq
    refine then_exit (block_here ?_)
    have e36 := of_some hn35
    refine then_norm ⟨rfl, (), [], ⟨rfl, rfl, rfl, rfl, rfl, trivial, trivial⟩, e36⟩
  ·intro w hw4
   subst hw4
   replace h := of_inr h
   refine awp_seq (awp_seq (awp_go hmix (go_run' ttok 1 rfl ?_)))
   obtain ⟨t10, hv37, h⟩ := of_obind h
   refine go_sliceS s t10 0 7 hv37 ttok rfl rfl rfl rfl rfl rfl ⟨_, rfl⟩ rfl ?_
   obtain ⟨lv, hv38, h⟩ := of_obind h
   refine go_call fn127 (ident_Letter_w t10 lv hv38) rfl rfl rfl rfl rfl rfl rfl ?_
   refine go_run' ttok 1 rfl ?_
   obtain ⟨c1, hv39, h⟩ := of_obind h
   refine go_indexB s 7 c1 hv39 ttok rfl rfl rfl rfl rfl rfl rfl ?_
   refine go_run' ttok 1 rfl ?_
   refine go_nil (fun _ => by kernel_rfl) ?_
   refine then_norm ?_
   refine awp_cond (b := (lv != c1)) rfl (fun c40 => ?_) (fun c40 => ?_)
   ·replace h := of_bif_t h c40
    refine awp_seq (awp_go hmix (go_run' ttok 3 rfl (go_nil nd (then_norm (awp_ret (then_ret ?_))))))
    have e41 := of_some h
    subst e41
    refine ret_ret ?_
    refine fin0 ttok rfl rfl ?_
    exact wkP_refl _ rfl
   ·replace h := of_bif_f h c40
    refine awp_skip (then_norm (awp_seq (awp_go hmix (go_run' ttok 1 rfl (go_nil nd (then_norm ?_))))))
    obtain ⟨y2, hx42, h⟩ := of_obind h
    refine awp_seqJ (X := Int) [0] [] (fun w2 => [(8, (I w2))]) (fun w2 => []) (fun w2 => w2 = y2) rfl rfl ?_ ?_
    ·skip
     refine awp_seq (awp_go hmix (go_run' ttok 1 rfl (go_nil nd (then_norm (awp_block ?_)))))
     refine awp_loopD (X := (Int × Int)) (Y := Int) [0] [] (fun q => [(8, (I q.1)), (9, (I q.2))]) (fun q => []) (fun q => ident_Split_s3 s q.1 q.2) (0, 1) [] hx42 ⟨rfl, rfl, rfl, rfl, rfl, ⟨wkP_id _ rfl, wkP_id _ rfl, trivial⟩, trivial⟩ (fun x vR2 vz2 hz44 hk45 => ?_)
     obtain ⟨n1, i1⟩ := x
     change ident_Split_s3 s n1 i1 = _ at hz44
     unfold ident_Split_s3 at hz44
     refine awp_seq (awp_seq (awp_go hmix (go_run' ttok 2 rfl (go_nil nd (then_norm ?_)))))
     refine awp_cond (b := (decide (i1 ≤ 6))) rfl (fun c46 => ?_) (fun c46 => ?_)
     ·replace hz44 := of_bif_t hz44 c46
      refine awp_skip (then_norm (awp_seq (awp_block (awp_go hmix (go_run' ttok 4 rfl ?_)))))
      obtain ⟨c2, hv47, hz44⟩ := of_obind hz44
      refine go_indexB s i1 c2 hv47 ttok rfl rfl rfl rfl rfl rfl rfl ?_
      refine go_run' ttok 4 rfl (go_nil nd (block_norm (then_norm (awp_go hmix (go_run' ttok 3 rfl (go_nil nd ?_))))))
      have e48 := of_some hz44
      subst e48
      refine then_norm ⟨rfl, ((W64 ((W64 (n1 * 10)) + (W64 (WU8 (c2 - 48))))), (W64 (i1 + 1))), [], ⟨rfl, rfl, rfl, rfl, rfl, ⟨wkP_id _ rfl, wkP_id _ rfl, trivial⟩, trivial⟩, hk45⟩
     ·replace hz44 := of_bif_f hz44 c46
      refine awp_exit (then_exit ?_)
      obtain ⟨t11, hn49, hq⟩ := of_mapr' hz44
      subst hq
      have hq : t11 = _ := hk45
      subst hq
      refine then_exit (block_here ?_)
      have e50 := of_some hn49
      refine then_norm ⟨rfl, n1, [], ⟨rfl, rfl, rfl, rfl, rfl, ⟨wkP_id _ rfl, trivial⟩, trivial⟩, e50⟩
    ·intro n hw43
     subst hw43
     refine awp_seq (awp_go hmix (go_run' ttok 1 rfl ?_))
     obtain ⟨c3, hv51, h⟩ := of_obind h
     refine go_indexB s 0 c3 hv51 ttok rfl rfl rfl rfl rfl rfl rfl ?_
     refine go_run' ttok 4 rfl (go_nil nd (then_norm (awp_ret ?_)))
     have e52 := of_some h
     subst e52
     refine ret_ret ?_
     refine fin0 ttok rfl rfl ?_
     exact wkP_refl _ rfl
noncomputable def ident_Split_cs2 (N : Nat) (s : ByteArray) (e : Tident_part) (i : Int) : Option (Int ⊕ ((Int ⊕ ((Int × Int × Int) ⊕ Unit)) ⊕ Unit)) :=
 (bif (decide (i < e.until_)) then (Option.bind (bytO s i) (fun c => (bif Nat.beq e.ok 78 then (bif (!(ident_isDigit_g c)) then some (Sum.inr (Sum.inl (Sum.inr (Sum.inl (0, 0, e.e))))) else some (Sum.inl (W64 (i + 1)))) else (bif Nat.beq e.ok 160 then (bif (!(ident_isCapital_g c)) then some (Sum.inr (Sum.inl (Sum.inr (Sum.inl (0, 0, e.e))))) else some (Sum.inl (W64 (i + 1)))) else none)))) else some (Sum.inr (Sum.inr ())))
theorem ident_Split_cs2_le (N : Nat) (s : ByteArray) (e : Tident_part) (i : Int) : OLe (ident_Split_cs2 N s e i) (ident_Split_s2 s e i) := by
 unfold ident_Split_cs2 ident_Split_s2
 repeat' (first | exact ole_rfl | exact ident_Letter_le _ _ | refine ole_bif ?_ ?_ | refine ole_bind ?_ (fun _ => ?_) | refine ole_let (fun _ => ?_) | refine ole_map ?_ | refine ole_elim (fun _ => ?_) (fun _ => ?_) | refine ole_loop (fun _ => ?_))
noncomputable def ident_Split_cs1 (N : Nat) (s : ByteArray) (pv : (List Tident_part)) (vv : Int) : Option (Int ⊕ ((Int × Int × Int) ⊕ Unit)) :=
 (bif (decide (vv < ((pv.length : Nat) : Int))) then (Option.bind ((Option.bind (getI pv vv) (fun e => (iterX N (fun q => ident_Split_cs2 N s e q) e.from_))) : Option ((Int ⊕ ((Int × Int × Int) ⊕ Unit)) ⊕ Unit)) (Sum.elim (fun q => some q) (fun _ => some (Sum.inl (W64 (vv + 1)))))) else some (Sum.inr (Sum.inr ())))
theorem ident_Split_cs1_le (N : Nat) (s : ByteArray) (pv : (List Tident_part)) (vv : Int) : OLe (ident_Split_cs1 N s pv vv) (ident_Split_s1 s pv vv) := by
 unfold ident_Split_cs1 ident_Split_s1
 repeat' (first | exact ole_rfl | exact ident_Letter_le _ _ | exact ident_Split_cs2_le _ _ _ _ | refine ole_bif ?_ ?_ | refine ole_bind ?_ (fun _ => ?_) | refine ole_let (fun _ => ?_) | refine ole_map ?_ | refine ole_elim (fun _ => ?_) (fun _ => ?_) | refine ole_loop (fun _ => ?_))
noncomputable def ident_Split_cs3 (N : Nat) (s : ByteArray) (n1 : Int) (i1 : Int) : Option ((Int × Int) ⊕ Int) :=
 (bif (decide (i1 ≤ 6)) then (Option.bind (bytO s i1) (fun c2 => some (Sum.inl ((W64 ((W64 (n1 * 10)) + (W64 (WU8 (c2 - 48))))), (W64 (i1 + 1)))))) else some (Sum.inr n1))
theorem ident_Split_cs3_le (N : Nat) (s : ByteArray) (n1 : Int) (i1 : Int) : OLe (ident_Split_cs3 N s n1 i1) (ident_Split_s3 s n1 i1) := by
 unfold ident_Split_cs3 ident_Split_s3
 repeat' (first | exact ole_rfl | exact ident_Letter_le _ _ | exact ident_Split_cs2_le _ _ _ _ | exact ident_Split_cs1_le _ _ _ _ | refine ole_bif ?_ ?_ | refine ole_bind ?_ (fun _ => ?_) | refine ole_let (fun _ => ?_) | refine ole_map ?_ | refine ole_elim (fun _ => ?_) (fun _ => ?_) | refine ole_loop (fun _ => ?_))
noncomputable def ident_Split_c (N : Nat) (s : ByteArray) : Option (Int × Int × Int) :=
 (bif (((s.size : Nat) : Int) != 8) then some (0, 0, 3) else (Option.bind ((letB ident_parts_g (fun pv => (iterX N (fun q => ident_Split_cs1 N s pv q) 0))) : Option ((Int × Int × Int) ⊕ Unit)) (Sum.elim (fun q => some q) (fun _ => (Option.bind (ssubO s 0 7) (fun t10 => (Option.bind ((ident_Letter_c N) t10) (fun lv => (Option.bind (bytO s 7) (fun c1 => (bif (lv != c1) then some (0, 0, 16) else (Option.bind ((iterX N (fun q => ident_Split_cs3 N s q.1 q.2) (0, 1)) : Option Int) (fun n => (Option.bind (bytO s 0) (fun c3 => some (c3, n, 0))))))))))))))))
theorem ident_Split_le (N : Nat) (s : ByteArray) : OLe (ident_Split_c N s) (ident_Split_g s) := by
 unfold ident_Split_c ident_Split_g
 repeat' (first | exact ole_rfl | exact ident_Letter_le _ _ | exact ident_Split_cs2_le _ _ _ _ | exact ident_Split_cs1_le _ _ _ _ | exact ident_Split_cs3_le _ _ _ _ | refine ole_bif ?_ ?_ | refine ole_bind ?_ (fun _ => ?_) | refine ole_let (fun _ => ?_) | refine ole_map ?_ | refine ole_elim (fun _ => ?_) (fun _ => ?_) | refine ole_loop (fun _ => ?_))
noncomputable def ident_Is_g (s : ByteArray) (kind : Int) : Option Bool :=
 (Option.bind (ident_Split_g s) (fun sv => (bif (sv.2.2 == 0) then some (sv.1 == kind) else some false)))
theorem ident_Is_w (s : ByteArray) (kind : Int) (r : Bool) (h : ident_Is_g s kind = some r) : Holds Tryz.prog 24 [(S s), (U8 kind)] [] (B r) [] := by
 unfold ident_Is_g at h
 refine holds_fn Tryz.func24 rfl Tryz.ntmps24 rfl rfl rfl (fun lim => ?_)
 refine awp_seq (awp_go hmix (go_run' ttok 1 rfl (go_nil nd (then_norm (awp_seq (awp_go hmix (go_run' ttok 1 rfl ?_)))))))
 obtain ⟨sv, hv1, h⟩ := of_obind h
 refine go_call fn76 (ident_Split_w s sv hv1) rfl rfl rfl rfl rfl rfl rfl ?_
 refine go_run' ttok 7 rfl (go_nil nd (then_norm (awp_seq (awp_go hmix (go_run' ttok 3 rfl ?_)))))
 refine go_gcase rfl rfl rfl (fun g2 => ?_) (fun g2 => ?_)
 ·rw [g2]
  replace h := of_bif_t h g2
  refine go_run' ttok 5 rfl (go_nil nd (then_norm (awp_ret ?_)))
  have e3 := of_some h
  subst e3
  refine ret_ret ?_
  refine fin0 ttok rfl rfl ?_
  exact (wkP_refl _ rfl)
 ·rw [g2]
  replace h := of_bif_f h g2
  refine go_run' ttok 5 rfl (go_nil nd (then_norm (awp_ret ?_)))
  have e4 := of_some h
  subst e4
  refine ret_ret ?_
  refine fin0 ttok rfl rfl ?_
  exact (wkP_refl _ rfl)
noncomputable def ident_Is_c (N : Nat) (s : ByteArray) (kind : Int) : Option Bool :=
 (Option.bind ((ident_Split_c N) s) (fun sv => (bif (sv.2.2 == 0) then some (sv.1 == kind) else some false)))
theorem ident_Is_le (N : Nat) (s : ByteArray) (kind : Int) : OLe (ident_Is_c N s kind) (ident_Is_g s kind) := by
 unfold ident_Is_c ident_Is_g
 repeat' (first | exact ole_rfl | exact ident_Split_le _ _ | refine ole_bif ?_ ?_ | refine ole_bind ?_ (fun _ => ?_) | refine ole_let (fun _ => ?_) | refine ole_map ?_ | refine ole_elim (fun _ => ?_) (fun _ => ?_) | refine ole_loop (fun _ => ?_))
noncomputable def board_isAlong_g (vz : Sp) : Bool :=
 (bif (decide (0 ≤ vz.a)) then (bif (decide (vz.b ≤ 20000)) then (decide (vz.a < vz.b)) else false) else false)
theorem board_isAlong_w (vz : Sp) (r : Bool) (h : board_isAlong_g vz = r) : Holds Tryz.prog 79 [(encSp vz)] [] (B r) [] := by
 unfold board_isAlong_g at h
 refine holds_fn Tryz.func79 rfl Tryz.ntmps79 rfl rfl rfl (fun lim => ?_)
 refine awp_seq (awp_go hmix (go_run' ttok 2 rfl (go_nil nd (then_norm (awp_seq (awp_go hmix (go_run' ttok 4 rfl ?_)))))))
 refine go_gcase rfl rfl rfl (fun g1 => ?_) (fun g1 => ?_)
 ·rw [g1]
  replace h := of_bif_t h g1
  refine go_run' ttok 5 rfl ?_
  refine go_gcase rfl rfl rfl (fun g2 => ?_) (fun g2 => ?_)
  ·rw [g2]
   replace h := of_bif_t h g2
   refine go_run' ttok 7 rfl (go_nil nd (then_norm (awp_ret ?_)))
   have e3 := h
   subst e3
   refine ret_ret ?_
   refine fin0 ttok rfl rfl ?_
   exact (wkP_refl _ rfl)
  ·rw [g2]
   replace h := of_bif_f h g2
   refine go_run' ttok 7 rfl (go_nil nd (then_norm (awp_ret ?_)))
   have e4 := h
   subst e4
   refine ret_ret ?_
   refine fin0 ttok rfl rfl ?_
   exact (wkP_refl _ rfl)
 ·rw [g1]
  replace h := of_bif_f h g1
  refine go_run' ttok 12 rfl (go_nil nd (then_norm (awp_ret ?_)))
  have e5 := h
  subst e5
  refine ret_ret ?_
  refine fin0 ttok rfl rfl ?_
  exact (wkP_refl _ rfl)
noncomputable def board_isBox_s1 (b : Bx) (vv : Int) : Option (Int ⊕ (Bool ⊕ Unit)) :=
 (bif (decide (vv < 2)) then (Option.bind (getI [b.x, b.y] vv) (fun e => (bif (decide (e.a < (-600))) then some (Sum.inr (Sum.inl false)) else (bif (decide (600 < e.b)) then some (Sum.inr (Sum.inl false)) else (bif (decide (e.b ≤ e.a)) then some (Sum.inr (Sum.inl false)) else some (Sum.inl (W64 (vv + 1)))))))) else some (Sum.inr (Sum.inr ())))
noncomputable def board_isBox_g (b : Bx) : Option Bool :=
 (Option.bind ((loopO (fun q => board_isBox_s1 b q) 0) : Option (Bool ⊕ Unit)) (Sum.elim (fun q => some q) (fun _ => some (board_isAlong_g b.z))))
theorem board_isBox_w (b : Bx) (r : Bool) (h : board_isBox_g b = some r) : Holds Tryz.prog 26 [(encBx b)] [] (B r) [] := by
 unfold board_isBox_g at h
 refine holds_fn Tryz.func26 rfl Tryz.ntmps26 rfl rfl rfl (fun lim => ?_)
 refine awp_seq (awp_go hmix (go_run' ttok 2 rfl (go_nil nd (then_norm ?_))))
 obtain ⟨y, hx1, h⟩ := of_obind h
 refine awp_seqJ (X := Unit) [1] [1] (fun _ => []) (fun _ => []) (fun w => Sum.inr w = y) rfl rfl ?_ ?_
 ·skip
  refine awp_seq (awp_go hmix (go_run' ttok 6 rfl (go_nil nd (then_norm (awp_block ?_)))))
  refine awp_loopD (X := Int) (Y := (Bool ⊕ Unit)) [1, 9] [1] (fun q => [(10, (I q))]) (fun q => []) (fun q => board_isBox_s1 b q) 0 [(1, some 1)] hx1 ⟨rfl, rfl, rfl, rfl, rfl, ⟨wkP_id _ rfl, trivial⟩, trivial⟩ (fun vv vR vz hz3 hk4 => ?_)
  change board_isBox_s1 b vv = _ at hz3
  unfold board_isBox_s1 at hz3
  refine awp_seq (awp_go hmix (go_run' ttok 1 rfl (go_nil nd (then_norm (awp_seq ?_)))))
  refine awp_cond (b := (decide (vv < 2))) rfl (fun c5 => ?_) (fun c5 => ?_)
  ·replace hz3 := of_bif_t hz3 c5
   refine awp_skip (then_norm (awp_seq (awp_block (awp_seq (awp_go hmix ?_)))))
   obtain ⟨e, hv6, hz3⟩ := of_obind hz3
   refine go_indexVT encSp [b.x, b.y] vv e hv6 rfl (by intro j el hj; match j, hj with | 0, hj => (cases hj; rfl) | 1, hj => (cases hj; rfl) | (_ + 2), hj => (exact absurd hj (by simp))) ttok rfl rfl rfl rfl rfl rfl rfl rfl ?_
   refine go_run' ttok 2 rfl (go_nil nd (then_norm (awp_seq (awp_go hmix (go_run' ttok 4 rfl ?_)))))
   refine go_gcase rfl rfl rfl (fun g7 => ?_) (fun g7 => ?_)
   ·rw [g7]
    replace hz3 := of_bif_t hz3 g7
    refine go_run' ttok 11 rfl (go_nil nd (then_norm ?_))
    refine awp_cond rfl (fun tt0 => ?_) (fun h => by cases h)
    clear tt0
    refine awp_seq (awp_go hmix (go_run' ttok 1 rfl (go_nil nd (then_norm (awp_ret (block_ret (then_ret ?_)))))))
    obtain ⟨t, hn8, hq⟩ := of_mapr' hz3
    subst hq
    have hq : t = _ := hk4
    subst hq
    refine then_ret (block_ret ?_)
    obtain ⟨t1, hn9, hq⟩ := of_mapl' hn8
    subst hq
    have hq := of_inl h
    replace hq := of_some hq
    subst hq
    refine then_ret ?_
    have e10 := of_some hn9
    subst e10
    refine ret_ret ?_
    refine fin0 ttok rfl rfl ?_
    exact (wkP_refl _ rfl)
   ·rw [g7]
    replace hz3 := of_bif_f hz3 g7
    refine go_run' ttok 5 rfl ?_
    refine go_gcase rfl rfl rfl (fun g11 => ?_) (fun g11 => ?_)
    ·rw [g11]
     replace hz3 := of_bif_t hz3 g11
     refine go_run' ttok 6 rfl (go_nil nd (then_norm ?_))
     refine awp_cond rfl (fun tt0 => ?_) (fun h => by cases h)
     clear tt0
     refine awp_seq (awp_go hmix (go_run' ttok 1 rfl (go_nil nd (then_norm (awp_ret (block_ret (then_ret ?_)))))))
     obtain ⟨t2, hn12, hq⟩ := of_mapr' hz3
     subst hq
     have hq : t2 = _ := hk4
     subst hq
     refine then_ret (block_ret ?_)
     obtain ⟨t3, hn13, hq⟩ := of_mapl' hn12
     subst hq
     have hq := of_inl h
     replace hq := of_some hq
     subst hq
     refine then_ret ?_
     have e14 := of_some hn13
     subst e14
     refine ret_ret ?_
     refine fin0 ttok rfl rfl ?_
     exact (wkP_refl _ rfl)
    ·rw [g11]
     replace hz3 := of_bif_f hz3 g11
     refine go_run' ttok 6 rfl (go_nil nd (then_norm ?_))
     refine awp_cond (b := (decide (e.b ≤ e.a))) rfl (fun c15 => ?_) (fun c15 => ?_)
     ·replace hz3 := of_bif_t hz3 c15
      refine awp_seq (awp_go hmix (go_run' ttok 1 rfl (go_nil nd (then_norm (awp_ret (block_ret (then_ret ?_)))))))
      obtain ⟨t4, hn16, hq⟩ := of_mapr' hz3
      subst hq
      have hq : t4 = _ := hk4
      subst hq
      refine then_ret (block_ret ?_)
      obtain ⟨t5, hn17, hq⟩ := of_mapl' hn16
      subst hq
      have hq := of_inl h
      replace hq := of_some hq
      subst hq
      refine then_ret ?_
      have e18 := of_some hn17
      subst e18
      refine ret_ret ?_
      refine fin0 ttok rfl rfl ?_
      exact (wkP_refl _ rfl)
     ·replace hz3 := of_bif_f hz3 c15
      refine awp_skip (block_norm (then_norm (awp_go hmix (go_run' ttok 2 rfl (go_nil nd ?_)))))
      have e19 := of_some hz3
      subst e19
      refine then_norm ⟨rfl, (W64 (vv + 1)), [(1, some 1)], ⟨rfl, rfl, rfl, rfl, rfl, ⟨wkP_id _ rfl, trivial⟩, trivial⟩, hk4⟩
  ·replace hz3 := of_bif_f hz3 c5
   refine awp_exit (then_exit ?_)
   obtain ⟨t6, hn20, hq⟩ := of_mapr' hz3
   subst hq
   have hq : t6 = _ := hk4
   subst hq
   refine then_exit (block_here ?_)
   have e21 := of_some hn20
   refine then_norm ⟨rfl, (), [(1, some 1)], ⟨rfl, rfl, rfl, rfl, rfl, trivial, trivial⟩, e21⟩
 ·intro w hw2
  subst hw2
  replace h := of_inr h
  refine awp_seq (awp_go hmix (go_run' ttok 2 rfl ?_))
  refine go_call fn79 (board_isAlong_w b.z _ rfl) rfl rfl rfl rfl rfl rfl rfl ?_
  refine go_run' ttok 1 rfl (go_nil nd (then_norm (awp_ret ?_)))
  have e22 := of_some h
  subst e22
  refine ret_ret ?_
  refine fin0 ttok rfl rfl ?_
  exact (wkP_refl _ rfl)
noncomputable def board_isBox_cs1 (N : Nat) (b : Bx) (vv : Int) : Option (Int ⊕ (Bool ⊕ Unit)) :=
 (bif (decide (vv < 2)) then (Option.bind (getI [b.x, b.y] vv) (fun e => (bif (decide (e.a < (-600))) then some (Sum.inr (Sum.inl false)) else (bif (decide (600 < e.b)) then some (Sum.inr (Sum.inl false)) else (bif (decide (e.b ≤ e.a)) then some (Sum.inr (Sum.inl false)) else some (Sum.inl (W64 (vv + 1)))))))) else some (Sum.inr (Sum.inr ())))
theorem board_isBox_cs1_le (N : Nat) (b : Bx) (vv : Int) : OLe (board_isBox_cs1 N b vv) (board_isBox_s1 b vv) := by
 unfold board_isBox_cs1 board_isBox_s1
 repeat' (first | exact ole_rfl | refine ole_bif ?_ ?_ | refine ole_bind ?_ (fun _ => ?_) | refine ole_let (fun _ => ?_) | refine ole_map ?_ | refine ole_elim (fun _ => ?_) (fun _ => ?_) | refine ole_loop (fun _ => ?_))
noncomputable def board_isBox_c (N : Nat) (b : Bx) : Option Bool :=
 (Option.bind ((iterX N (fun q => board_isBox_cs1 N b q) 0) : Option (Bool ⊕ Unit)) (Sum.elim (fun q => some q) (fun _ => some (board_isAlong_g b.z))))
theorem board_isBox_le (N : Nat) (b : Bx) : OLe (board_isBox_c N b) (board_isBox_g b) := by
 unfold board_isBox_c board_isBox_g
 repeat' (first | exact ole_rfl | exact board_isBox_cs1_le _ _ _ | refine ole_bif ?_ ?_ | refine ole_bind ?_ (fun _ => ?_) | refine ole_let (fun _ => ?_) | refine ole_map ?_ | refine ole_elim (fun _ => ?_) (fun _ => ?_) | refine ole_loop (fun _ => ?_))
noncomputable def board_length_g (s : Sp) : Int :=
 (W64 (s.b - s.a))
theorem board_length_w (s : Sp) (r : Int) (h : board_length_g s = r) : Holds Tryz.prog 27 [(encSp s)] [] (I r) [] := by
 unfold board_length_g at h
 refine holds_fn Tryz.func27 rfl Tryz.ntmps27 rfl rfl rfl (fun lim => ?_)
 refine awp_seq (awp_go hmix (go_run' ttok 2 rfl (go_nil nd (then_norm (awp_seq (awp_go hmix (go_run' ttok 6 rfl (go_nil nd (then_norm (awp_ret ?_))))))))))
 have e1 := h
 subst e1
 refine ret_ret ?_
 refine fin0 ttok rfl rfl ?_
 exact (wkP_refl _ rfl)
noncomputable def slices_Index___int_int__s1 (s : (List Int)) (vv : Int) (vv1 : Int) : Option (Int ⊕ (Int ⊕ Unit)) :=
 (bif (decide (vv1 < ((s.length : Nat) : Int))) then (Option.bind (getI s vv1) (fun e => (bif (vv == e) then some (Sum.inr (Sum.inl vv1)) else some (Sum.inl (W64 (vv1 + 1)))))) else some (Sum.inr (Sum.inr ())))
noncomputable def slices_Index___int_int__g (s : (List Int)) (vv : Int) : Option Int :=
 (Option.bind ((loopO (fun q => slices_Index___int_int__s1 s vv q) 0) : Option (Int ⊕ Unit)) (Sum.elim (fun q => some q) (fun _ => some (-1))))
theorem slices_Index___int_int__w (s : (List Int)) (vv : Int) (r : Int) (h : slices_Index___int_int__g s vv = some r) : Holds Tryz.prog 82 [((encL I) s), (I vv)] [] (I r) [] := by
 unfold slices_Index___int_int__g at h
 refine holds_fn Tryz.func82 rfl Tryz.ntmps82 rfl rfl rfl (fun lim => ?_)
 refine awp_seq (awp_go hmix (go_run' ttok 1 rfl (go_nil nd (then_norm ?_))))
 obtain ⟨y, hx1, h⟩ := of_obind h
 refine awp_seqJ (X := Unit) [] [] (fun _ => []) (fun _ => []) (fun w => Sum.inr w = y) rfl rfl ?_ ?_
 ·skip
  refine awp_seq (awp_go hmix (go_run' ttok 1 rfl ?_))
  refine go_lenT I s ttok rfl rfl rfl rfl rfl rfl ?_
  refine go_run' ttok 1 rfl (go_nil nd (then_norm (awp_block ?_)))
  refine awp_loopD (X := Int) (Y := (Int ⊕ Unit)) [0, 1, 7] [] (fun q => [(8, (I q))]) (fun q => []) (fun q => slices_Index___int_int__s1 s vv q) 0 [] hx1 ⟨rfl, rfl, rfl, rfl, rfl, ⟨wkP_id _ rfl, trivial⟩, trivial⟩ (fun vv1 vR vz hz3 hk4 => ?_)
  change slices_Index___int_int__s1 s vv vv1 = _ at hz3
  unfold slices_Index___int_int__s1 at hz3
  refine awp_seq (awp_go hmix (go_run' ttok 1 rfl (go_nil nd (then_norm (awp_seq ?_)))))
  refine awp_cond (b := (decide (vv1 < ((s.length : Nat) : Int)))) rfl (fun c5 => ?_) (fun c5 => ?_)
  ·replace hz3 := of_bif_t hz3 c5
   refine awp_skip (then_norm (awp_seq (awp_block (awp_seq (awp_go hmix (go_run' ttok 2 rfl (go_nil nd (then_norm (awp_seq (awp_go hmix (go_run' ttok 3 rfl ?_)))))))))))
   obtain ⟨e, hv6, hz3⟩ := of_obind hz3
   refine go_indexT I s vv1 e hv6 ttok rfl rfl rfl rfl rfl rfl rfl rfl rfl ?_
   refine go_run' ttok 2 rfl (go_nil nd (then_norm ?_))
   refine awp_cond (b := (vv == e)) rfl (fun c7 => ?_) (fun c7 => ?_)
   ·replace hz3 := of_bif_t hz3 c7
    refine awp_seq (awp_go hmix (go_run' ttok 2 rfl (go_nil nd (then_norm (awp_ret (block_ret (then_ret ?_)))))))
    obtain ⟨t, hn8, hq⟩ := of_mapr' hz3
    subst hq
    have hq : t = _ := hk4
    subst hq
    refine then_ret (block_ret ?_)
    obtain ⟨t1, hn9, hq⟩ := of_mapl' hn8
    subst hq
    have hq := of_inl h
    replace hq := of_some hq
    subst hq
    refine then_ret ?_
    have e10 := of_some hn9
    subst e10
    refine ret_ret ?_
    refine fin0 ttok rfl rfl ?_
    exact (wkP_refl _ rfl)
   ·replace hz3 := of_bif_f hz3 c7
    refine awp_skip (block_norm (then_norm (awp_go hmix (go_run' ttok 2 rfl (go_nil nd ?_)))))
    have e11 := of_some hz3
    subst e11
    refine then_norm ⟨rfl, (W64 (vv1 + 1)), [], ⟨rfl, rfl, rfl, rfl, rfl, ⟨wkP_id _ rfl, trivial⟩, trivial⟩, hk4⟩
  ·replace hz3 := of_bif_f hz3 c5
   refine awp_exit (then_exit ?_)
   obtain ⟨t2, hn12, hq⟩ := of_mapr' hz3
   subst hq
   have hq : t2 = _ := hk4
   subst hq
   refine then_exit (block_here ?_)
   have e13 := of_some hn12
   refine then_norm ⟨rfl, (), [], ⟨rfl, rfl, rfl, rfl, rfl, trivial, trivial⟩, e13⟩
 ·intro w hw2
  subst hw2
  replace h := of_inr h
  refine awp_seq (awp_go hmix (go_run' ttok 1 rfl (go_nil nd (then_norm (awp_ret ?_)))))
  have e14 := of_some h
  subst e14
  refine ret_ret ?_
  refine fin0 ttok rfl rfl ?_
  exact (wkP_refl _ rfl)
noncomputable def slices_Index___int_int__cs1 (N : Nat) (s : (List Int)) (vv : Int) (vv1 : Int) : Option (Int ⊕ (Int ⊕ Unit)) :=
 (bif (decide (vv1 < ((s.length : Nat) : Int))) then (Option.bind (getI s vv1) (fun e => (bif (vv == e) then some (Sum.inr (Sum.inl vv1)) else some (Sum.inl (W64 (vv1 + 1)))))) else some (Sum.inr (Sum.inr ())))
theorem slices_Index___int_int__cs1_le (N : Nat) (s : (List Int)) (vv : Int) (vv1 : Int) : OLe (slices_Index___int_int__cs1 N s vv vv1) (slices_Index___int_int__s1 s vv vv1) := by
 unfold slices_Index___int_int__cs1 slices_Index___int_int__s1
 repeat' (first | exact ole_rfl | refine ole_bif ?_ ?_ | refine ole_bind ?_ (fun _ => ?_) | refine ole_let (fun _ => ?_) | refine ole_map ?_ | refine ole_elim (fun _ => ?_) (fun _ => ?_) | refine ole_loop (fun _ => ?_))
noncomputable def slices_Index___int_int__c (N : Nat) (s : (List Int)) (vv : Int) : Option Int :=
 (Option.bind ((iterX N (fun q => slices_Index___int_int__cs1 N s vv q) 0) : Option (Int ⊕ Unit)) (Sum.elim (fun q => some q) (fun _ => some (-1))))
theorem slices_Index___int_int__le (N : Nat) (s : (List Int)) (vv : Int) : OLe (slices_Index___int_int__c N s vv) (slices_Index___int_int__g s vv) := by
 unfold slices_Index___int_int__c slices_Index___int_int__g
 repeat' (first | exact ole_rfl | exact slices_Index___int_int__cs1_le _ _ _ _ | refine ole_bif ?_ ?_ | refine ole_bind ?_ (fun _ => ?_) | refine ole_let (fun _ => ?_) | refine ole_map ?_ | refine ole_elim (fun _ => ?_) (fun _ => ?_) | refine ole_loop (fun _ => ?_))
noncomputable def slices_Contains___int_int__g (s : (List Int)) (vv : Int) : Option Bool :=
 (Option.bind (slices_Index___int_int__g s vv) (fun iv => some (decide (0 ≤ iv))))
theorem slices_Contains___int_int__w (s : (List Int)) (vv : Int) (r : Bool) (h : slices_Contains___int_int__g s vv = some r) : Holds Tryz.prog 29 [((encL I) s), (I vv)] [] (B r) [] := by
 unfold slices_Contains___int_int__g at h
 refine holds_fn Tryz.func29 rfl Tryz.ntmps29 rfl rfl rfl (fun lim => ?_)
 refine awp_seq (awp_go hmix (go_run' ttok 1 rfl (go_nil nd (then_norm (awp_seq (awp_go hmix (go_run' ttok 2 rfl ?_)))))))
 obtain ⟨iv, hv1, h⟩ := of_obind h
 refine go_call fn82 (slices_Index___int_int__w s vv iv hv1) rfl rfl rfl rfl rfl rfl rfl ?_
 refine go_run' ttok 2 rfl (go_nil nd (then_norm (awp_ret ?_)))
 have e2 := of_some h
 subst e2
 refine ret_ret ?_
 refine fin0 ttok rfl rfl ?_
 exact (wkP_refl _ rfl)
noncomputable def slices_Contains___int_int__c (N : Nat) (s : (List Int)) (vv : Int) : Option Bool :=
 (Option.bind ((slices_Index___int_int__c N) s vv) (fun iv => some (decide (0 ≤ iv))))
theorem slices_Contains___int_int__le (N : Nat) (s : (List Int)) (vv : Int) : OLe (slices_Contains___int_int__c N s vv) (slices_Contains___int_int__g s vv) := by
 unfold slices_Contains___int_int__c slices_Contains___int_int__g
 repeat' (first | exact ole_rfl | exact slices_Index___int_int__le _ _ _ | refine ole_bif ?_ ?_ | refine ole_bind ?_ (fun _ => ?_) | refine ole_let (fun _ => ?_) | refine ole_map ?_ | refine ole_elim (fun _ => ?_) (fun _ => ?_) | refine ole_loop (fun _ => ?_))
noncomputable def defect_isEmpty_g (s : Sp) : Bool :=
 (decide (s.b ≤ s.a))
theorem defect_isEmpty_w (s : Sp) (r : Bool) (h : defect_isEmpty_g s = r) : Holds Tryz.prog 128 [(encSp s)] [] (B r) [] := by
 unfold defect_isEmpty_g at h
 refine holds_fn Tryz.func128 rfl Tryz.ntmps128 rfl rfl rfl (fun lim => ?_)
 refine awp_seq (awp_go hmix (go_run' ttok 2 rfl (go_nil nd (then_norm (awp_seq (awp_go hmix (go_run' ttok 6 rfl (go_nil nd (then_norm (awp_ret ?_))))))))))
 have e1 := h
 subst e1
 refine ret_ret ?_
 refine fin0 ttok rfl rfl ?_
 exact (wkP_refl _ rfl)
noncomputable def defect_inside_g (s : Sp) (low : Int) (high : Int) : Bool :=
 (bif (decide (low ≤ (min s.a s.b))) then (decide ((max s.a s.b) ≤ high)) else false)
theorem defect_inside_w (s : Sp) (low : Int) (high : Int) (r : Bool) (h : defect_inside_g s low high = r) : Holds Tryz.prog 129 [(encSp s), (I low), (I high)] [] (B r) [] := by
 unfold defect_inside_g at h
 refine holds_fn Tryz.func129 rfl Tryz.ntmps129 rfl rfl rfl (fun lim => ?_)
 refine awp_seq (awp_go hmix (go_run' ttok 2 rfl (go_nil nd (then_norm (awp_seq (awp_go hmix (go_run' ttok 8 rfl ?_)))))))
 refine go_gcase rfl rfl rfl (fun g1 => ?_) (fun g1 => ?_)
 ·rw [g1]
  replace h := of_bif_t h g1
  refine go_run' ttok 9 rfl (go_nil nd (then_norm (awp_ret ?_)))
  have e2 := h
  subst e2
  refine ret_ret ?_
  refine fin0 ttok rfl rfl ?_
  exact (wkP_refl _ rfl)
 ·rw [g1]
  replace h := of_bif_f h g1
  refine go_run' ttok 9 rfl (go_nil nd (then_norm (awp_ret ?_)))
  have e3 := h
  subst e3
  refine ret_ret ?_
  refine fin0 ttok rfl rfl ?_
  exact (wkP_refl _ rfl)
noncomputable def defect_check_g (d : Df) : Int :=
 (letB ((bif (decide (d.k < 1)) then true else (decide (6 < d.k))) : Bool) (fun vv => (bif vv then 10 else (letB ((bif (defect_isEmpty_g d.b.x) then true else (bif (defect_isEmpty_g d.b.y) then true else (defect_isEmpty_g d.b.z))) : Bool) (fun vv1 => (bif vv1 then 19 else (bif (!(defect_inside_g d.b.x (-600) 600)) then 9 else (bif (!(defect_inside_g d.b.y (-600) 600)) then 9 else (bif (!(defect_inside_g d.b.z 0 20000)) then 9 else 0)))))))))
theorem defect_check_w (d : Df) (r : Int) (h : defect_check_g d = r) : Holds Tryz.prog 83 [(encDf d)] [] (I r) [] := by
 unfold defect_check_g at h
 refine holds_fn Tryz.func83 rfl Tryz.ntmps83 rfl rfl rfl (fun lim => ?_)
 refine awp_seq (awp_go hmix (go_run' ttok 2 rfl (go_nil nd (then_norm (awp_seq (awp_go hmix (go_run' ttok 4 rfl (go_nil nd (then_norm (awp_seq (awp_block ?_)))))))))))
 obtain ⟨y, hx1, h⟩ := of_let h
 refine awp_seqJ (X := Bool) [3] [3] (fun w => [(6, (B w))]) (fun w => []) (fun w => w = y) rfl rfl ?_ ?_
 ·skip
  refine awp_go hmix (go_run' ttok 4 rfl ?_)
  refine go_gcase rfl rfl rfl (fun g3 => ?_) (fun g3 => ?_)
  ·rw [g3]
   replace hx1 := of_bif_t hx1 g3
   refine go_run' ttok 5 rfl (go_nil nd ?_)
   have e4 := hx1
   refine then_norm ⟨rfl, true, [(3, some 3)], ⟨rfl, rfl, rfl, rfl, rfl, ⟨wkP_id _ rfl, trivial⟩, trivial⟩, e4⟩
  ·rw [g3]
   replace hx1 := of_bif_f hx1 g3
   refine go_run' ttok 5 rfl (go_nil nd ?_)
   have e5 := hx1
   refine then_norm ⟨rfl, (decide (6 < d.k)), [(3, some 3)], ⟨rfl, rfl, rfl, rfl, rfl, ⟨wkP_id _ rfl, trivial⟩, trivial⟩, e5⟩
 ·intro vv hw2
  subst hw2
  refine awp_cond (b := vv) rfl (fun c6 => ?_) (fun c6 => ?_)
  ·replace h := of_bif_t h c6
   refine awp_seq (awp_go hmix (go_run' ttok 1 rfl (go_nil nd (then_norm (awp_ret (block_ret (then_ret ?_)))))))
   have e7 := h
   subst e7
   refine ret_ret ?_
   refine fin0 ttok rfl rfl ?_
   exact (wkP_refl _ rfl)
  ·replace h := of_bif_f h c6
   obtain ⟨y1, hx8, h⟩ := of_let h
   refine awp_seqJ (X := Bool) [3] [3] (fun w1 => [(15, (B w1))]) (fun w1 => []) (fun w1 => w1 = y1) rfl rfl ?_ ?_
   ·skip
    refine awp_go hmix (go_run' ttok 2 rfl ?_)
    refine go_call fn128 (defect_isEmpty_w d.b.x _ rfl) rfl rfl rfl rfl rfl rfl rfl ?_
    refine go_run' ttok 1 rfl ?_
    refine go_gcase rfl rfl rfl (fun g10 => ?_) (fun g10 => ?_)
    ·rw [g10]
     replace hx8 := of_bif_t hx8 g10
     refine go_run' ttok 10 rfl (go_nil nd ?_)
     have e11 := hx8
     refine then_norm ⟨rfl, true, [(3, some 3)], ⟨rfl, rfl, rfl, rfl, rfl, ⟨wkP_id _ rfl, trivial⟩, trivial⟩, e11⟩
    ·rw [g10]
     replace hx8 := of_bif_f hx8 g10
     refine go_run' ttok 2 rfl ?_
     refine go_call fn128 (defect_isEmpty_w d.b.y _ rfl) rfl rfl rfl rfl rfl rfl rfl ?_
     refine go_run' ttok 2 rfl ?_
     refine go_gcase rfl rfl rfl (fun g12 => ?_) (fun g12 => ?_)
     ·rw [g12]
      replace hx8 := of_bif_t hx8 g12
      refine go_run' ttok 5 rfl (go_nil nd ?_)
      have e13 := hx8
      refine then_norm ⟨rfl, true, [(3, some 3)], ⟨rfl, rfl, rfl, rfl, rfl, ⟨wkP_id _ rfl, trivial⟩, trivial⟩, e13⟩
     ·rw [g12]
      replace hx8 := of_bif_f hx8 g12
      refine go_run' ttok 2 rfl ?_
      refine go_call fn128 (defect_isEmpty_w d.b.z _ rfl) rfl rfl rfl rfl rfl rfl rfl ?_
      refine go_run' ttok 2 rfl (go_nil nd ?_)
      have e14 := hx8
      refine then_norm ⟨rfl, (defect_isEmpty_g d.b.z), [(3, some 3)], ⟨rfl, rfl, rfl, rfl, rfl, ⟨wkP_id _ rfl, trivial⟩, trivial⟩, e14⟩
   ·intro vv1 hw9
    subst hw9
    refine awp_cond (b := vv1) rfl (fun c15 => ?_) (fun c15 => ?_)
    ·replace h := of_bif_t h c15
     refine awp_seq (awp_go hmix (go_run' ttok 1 rfl (go_nil nd (then_norm (awp_ret (block_ret (then_ret ?_)))))))
     have e16 := h
     subst e16
     refine ret_ret ?_
     refine fin0 ttok rfl rfl ?_
     exact (wkP_refl _ rfl)
    ·replace h := of_bif_f h c15
     refine awp_seq (awp_go hmix (go_run' ttok 2 rfl ?_))
     refine go_call fn129 (defect_inside_w d.b.x (-600) 600 _ rfl) rfl rfl rfl rfl rfl rfl rfl ?_
     refine go_run' ttok 2 rfl ?_
     refine go_gcase rfl rfl rfl (fun g17 => ?_) (fun g17 => ?_)
     ·rw [g17]
      replace h := of_bif_t h g17
      refine go_run' ttok 12 rfl (go_nil nd (then_norm ?_))
      refine awp_cond rfl (fun tt0 => ?_) (fun h => by cases h)
      clear tt0
      refine awp_seq (awp_go hmix (go_run' ttok 1 rfl (go_nil nd (then_norm (awp_ret (block_ret (then_ret ?_)))))))
      have e18 := h
      subst e18
      refine ret_ret ?_
      refine fin0 ttok rfl rfl ?_
      exact (wkP_refl _ rfl)
     ·rw [g17]
      replace h := of_bif_f h g17
      refine go_run' ttok 2 rfl ?_
      refine go_call fn129 (defect_inside_w d.b.y (-600) 600 _ rfl) rfl rfl rfl rfl rfl rfl rfl ?_
      refine go_run' ttok 3 rfl ?_
      refine go_gcase rfl rfl rfl (fun g19 => ?_) (fun g19 => ?_)
      ·rw [g19]
       replace h := of_bif_t h g19
       refine go_run' ttok 6 rfl (go_nil nd (then_norm ?_))
       refine awp_cond rfl (fun tt0 => ?_) (fun h => by cases h)
       clear tt0
       refine awp_seq (awp_go hmix (go_run' ttok 1 rfl (go_nil nd (then_norm (awp_ret (block_ret (then_ret ?_)))))))
       have e20 := h
       subst e20
       refine ret_ret ?_
       refine fin0 ttok rfl rfl ?_
       exact (wkP_refl _ rfl)
      ·rw [g19]
       replace h := of_bif_f h g19
       refine go_run' ttok 2 rfl ?_
       refine go_call fn129 (defect_inside_w d.b.z 0 20000 _ rfl) rfl rfl rfl rfl rfl rfl rfl ?_
       refine go_run' ttok 3 rfl (go_nil nd (then_norm ?_))
       refine awp_cond (b := (!(defect_inside_g d.b.z 0 20000))) rfl (fun c21 => ?_) (fun c21 => ?_)
       ·replace h := of_bif_t h c21
        refine awp_seq (awp_go hmix (go_run' ttok 1 rfl (go_nil nd (then_norm (awp_ret (block_ret (then_ret ?_)))))))
        have e22 := h
        subst e22
        refine ret_ret ?_
        refine fin0 ttok rfl rfl ?_
        exact (wkP_refl _ rfl)
       ·replace h := of_bif_f h c21
        refine awp_skip (block_norm (then_norm (awp_seq (awp_go hmix (go_run' ttok 1 rfl (go_nil nd (then_norm (awp_ret ?_))))))))
        have e23 := h
        subst e23
        refine ret_ret ?_
        refine fin0 ttok rfl rfl ?_
        exact (wkP_refl _ rfl)
noncomputable def defect_Check_s1 (l : (List Df)) (vv : Int) : Option (Int ⊕ (Int ⊕ Unit)) :=
 (bif (decide (vv < ((l.length : Nat) : Int))) then (Option.bind (getI l vv) (fun e => (bif ((defect_check_g e) != 0) then some (Sum.inr (Sum.inl (defect_check_g e))) else some (Sum.inl (W64 (vv + 1)))))) else some (Sum.inr (Sum.inr ())))
noncomputable def defect_Check_g (l : (List Df)) : Option Int :=
 (bif (decide (64 < ((l.length : Nat) : Int))) then some 4 else (Option.bind ((loopO (fun q => defect_Check_s1 l q) 0) : Option (Int ⊕ Unit)) (Sum.elim (fun q => some q) (fun _ => some 0))))
theorem defect_Check_w (l : (List Df)) (r : Int) (h : defect_Check_g l = some r) : Holds Tryz.prog 30 [((encL encDf) l)] [] (I r) [] := by
 unfold defect_Check_g at h
 refine holds_fn Tryz.func30 rfl Tryz.ntmps30 rfl rfl rfl (fun lim => ?_)
 refine awp_seq (awp_go hmix (go_run' ttok 1 rfl (go_nil nd (then_norm (awp_seq (awp_seq (awp_go hmix (go_run' ttok 1 rfl ?_))))))))
 refine go_lenT encDf l ttok rfl rfl rfl rfl rfl rfl ?_
 refine go_run' ttok 1 rfl (go_nil nd (then_norm ?_))
 refine awp_cond (b := (decide (64 < ((l.length : Nat) : Int)))) rfl (fun c1 => ?_) (fun c1 => ?_)
 ·replace h := of_bif_t h c1
  refine awp_seq (awp_go hmix (go_run' ttok 1 rfl (go_nil nd (then_norm (awp_ret (then_ret ?_))))))
  have e2 := of_some h
  subst e2
  refine ret_ret ?_
  refine fin0 ttok rfl rfl ?_
  exact (wkP_refl _ rfl)
 ·replace h := of_bif_f h c1
  refine awp_skip (then_norm ?_)
  obtain ⟨y, hx3, h⟩ := of_obind h
  refine awp_seqJ (X := Unit) [] [] (fun _ => []) (fun _ => []) (fun w => Sum.inr w = y) rfl rfl ?_ ?_
  ·skip
   refine awp_seq (awp_go hmix (go_run' ttok 1 rfl ?_))
   refine go_lenT encDf l ttok rfl rfl rfl rfl rfl rfl ?_
   refine go_run' ttok 1 rfl (go_nil nd (then_norm (awp_block ?_)))
   refine awp_loopD (X := Int) (Y := (Int ⊕ Unit)) [9, 10] [] (fun q => [(11, (I q))]) (fun q => []) (fun q => defect_Check_s1 l q) 0 [] hx3 ⟨rfl, rfl, rfl, rfl, rfl, ⟨wkP_id _ rfl, trivial⟩, trivial⟩ (fun vv vR vz hz5 hk6 => ?_)
   change defect_Check_s1 l vv = _ at hz5
   unfold defect_Check_s1 at hz5
   refine awp_seq (awp_go hmix (go_run' ttok 1 rfl (go_nil nd (then_norm (awp_seq ?_)))))
   refine awp_cond (b := (decide (vv < ((l.length : Nat) : Int)))) rfl (fun c7 => ?_) (fun c7 => ?_)
   ·replace hz5 := of_bif_t hz5 c7
    refine awp_skip (then_norm (awp_seq (awp_block (awp_seq (awp_go hmix ?_)))))
    obtain ⟨e, hv8, hz5⟩ := of_obind hz5
    refine go_indexT encDf l vv e hv8 ttok rfl rfl rfl rfl rfl rfl rfl rfl rfl ?_
    refine go_run' ttok 3 rfl (go_nil nd (then_norm (awp_seq (awp_go hmix (go_run' ttok 1 rfl ?_)))))
    refine go_call fn83 (defect_check_w e _ rfl) rfl rfl rfl rfl rfl rfl rfl ?_
    refine go_run' ttok 1 rfl (go_nil nd (then_norm (awp_seq (awp_go hmix (go_run' ttok 2 rfl (go_nil nd (then_norm ?_)))))))
    refine awp_cond (b := ((defect_check_g e) != 0)) rfl (fun c9 => ?_) (fun c9 => ?_)
    ·replace hz5 := of_bif_t hz5 c9
     refine awp_seq (awp_go hmix (go_run' ttok 2 rfl (go_nil nd (then_norm (awp_ret (block_ret (then_ret ?_)))))))
     obtain ⟨t, hn10, hq⟩ := of_mapr' hz5
     subst hq
     have hq : t = _ := hk6
     subst hq
     refine then_ret (block_ret ?_)
     obtain ⟨t1, hn11, hq⟩ := of_mapl' hn10
     subst hq
     have hq := of_inl h
     replace hq := of_some hq
     subst hq
     refine then_ret ?_
     have e12 := of_some hn11
     subst e12
     refine ret_ret ?_
     refine fin0 ttok rfl rfl ?_
     exact (wkP_refl _ rfl)
    ·replace hz5 := of_bif_f hz5 c9
     refine awp_skip (block_norm (then_norm (awp_go hmix (go_run' ttok 2 rfl (go_nil nd ?_)))))
     have e13 := of_some hz5
     subst e13
     refine then_norm ⟨rfl, (W64 (vv + 1)), [], ⟨rfl, rfl, rfl, rfl, rfl, ⟨wkP_id _ rfl, trivial⟩, trivial⟩, hk6⟩
   ·replace hz5 := of_bif_f hz5 c7
    refine awp_exit (then_exit ?_)
    obtain ⟨t2, hn14, hq⟩ := of_mapr' hz5
    subst hq
    have hq : t2 = _ := hk6
    subst hq
    refine then_exit (block_here ?_)
    have e15 := of_some hn14
    refine then_norm ⟨rfl, (), [], ⟨rfl, rfl, rfl, rfl, rfl, trivial, trivial⟩, e15⟩
  ·intro w hw4
   subst hw4
   replace h := of_inr h
   refine awp_seq (awp_go hmix (go_run' ttok 1 rfl (go_nil nd (then_norm (awp_ret ?_)))))
   have e16 := of_some h
   subst e16
   refine ret_ret ?_
   refine fin0 ttok rfl rfl ?_
   exact (wkP_refl _ rfl)
noncomputable def defect_Check_cs1 (N : Nat) (l : (List Df)) (vv : Int) : Option (Int ⊕ (Int ⊕ Unit)) :=
 (bif (decide (vv < ((l.length : Nat) : Int))) then (Option.bind (getI l vv) (fun e => (bif ((defect_check_g e) != 0) then some (Sum.inr (Sum.inl (defect_check_g e))) else some (Sum.inl (W64 (vv + 1)))))) else some (Sum.inr (Sum.inr ())))
theorem defect_Check_cs1_le (N : Nat) (l : (List Df)) (vv : Int) : OLe (defect_Check_cs1 N l vv) (defect_Check_s1 l vv) := by
 unfold defect_Check_cs1 defect_Check_s1
 repeat' (first | exact ole_rfl | refine ole_bif ?_ ?_ | refine ole_bind ?_ (fun _ => ?_) | refine ole_let (fun _ => ?_) | refine ole_map ?_ | refine ole_elim (fun _ => ?_) (fun _ => ?_) | refine ole_loop (fun _ => ?_))
noncomputable def defect_Check_c (N : Nat) (l : (List Df)) : Option Int :=
 (bif (decide (64 < ((l.length : Nat) : Int))) then some 4 else (Option.bind ((iterX N (fun q => defect_Check_cs1 N l q) 0) : Option (Int ⊕ Unit)) (Sum.elim (fun q => some q) (fun _ => some 0))))
theorem defect_Check_le (N : Nat) (l : (List Df)) : OLe (defect_Check_c N l) (defect_Check_g l) := by
 unfold defect_Check_c defect_Check_g
 repeat' (first | exact ole_rfl | exact defect_Check_cs1_le _ _ _ | refine ole_bif ?_ ?_ | refine ole_bind ?_ (fun _ => ?_) | refine ole_let (fun _ => ?_) | refine ole_map ?_ | refine ole_elim (fun _ => ?_) (fun _ => ?_) | refine ole_loop (fun _ => ?_))
noncomputable def board_inside_g (s : Sp) (n : Int) : Bool :=
 (bif (decide (0 ≤ s.a)) then (bif (decide (s.a ≤ n)) then (bif (decide (0 ≤ s.b)) then (decide (s.b ≤ n)) else false) else false) else false)
theorem board_inside_w (s : Sp) (n : Int) (r : Bool) (h : board_inside_g s n = r) : Holds Tryz.prog 31 [(encSp s), (I n)] [] (B r) [] := by
 unfold board_inside_g at h
 refine holds_fn Tryz.func31 rfl Tryz.ntmps31 rfl rfl rfl (fun lim => ?_)
 refine awp_seq (awp_go hmix (go_run' ttok 2 rfl (go_nil nd (then_norm (awp_seq (awp_go hmix (go_run' ttok 4 rfl ?_)))))))
 refine go_gcase rfl rfl rfl (fun g1 => ?_) (fun g1 => ?_)
 ·rw [g1]
  replace h := of_bif_t h g1
  refine go_run' ttok 6 rfl ?_
  refine go_gcase rfl rfl rfl (fun g2 => ?_) (fun g2 => ?_)
  ·rw [g2]
   replace h := of_bif_t h g2
   refine go_run' ttok 5 rfl ?_
   refine go_gcase rfl rfl rfl (fun g3 => ?_) (fun g3 => ?_)
   ·rw [g3]
    replace h := of_bif_t h g3
    refine go_run' ttok 6 rfl (go_nil nd (then_norm (awp_ret ?_)))
    have e4 := h
    subst e4
    refine ret_ret ?_
    refine fin0 ttok rfl rfl ?_
    exact (wkP_refl _ rfl)
   ·rw [g3]
    replace h := of_bif_f h g3
    refine go_run' ttok 6 rfl (go_nil nd (then_norm (awp_ret ?_)))
    have e5 := h
    subst e5
    refine ret_ret ?_
    refine fin0 ttok rfl rfl ?_
    exact (wkP_refl _ rfl)
  ·rw [g2]
   replace h := of_bif_f h g2
   refine go_run' ttok 11 rfl (go_nil nd (then_norm (awp_ret ?_)))
   have e6 := h
   subst e6
   refine ret_ret ?_
   refine fin0 ttok rfl rfl ?_
   exact (wkP_refl _ rfl)
 ·rw [g1]
  replace h := of_bif_f h g1
  refine go_run' ttok 17 rfl (go_nil nd (then_norm (awp_ret ?_)))
  have e7 := h
  subst e7
  refine ret_ret ?_
  refine fin0 ttok rfl rfl ?_
  exact (wkP_refl _ rfl)
noncomputable def board_Volume_g (b : TBoard) : Option Int :=
 (Option.bind (board_isBox_g b.Box) (fun iv => (bif (!iv) then some 0 else some (W64 ((W64 ((board_length_g b.Box.x) * (board_length_g b.Box.y))) * (board_length_g b.Box.z))))))
theorem board_Volume_w (b : TBoard) (r : Int) (h : board_Volume_g b = some r) : Holds Tryz.prog 32 [(encTBoard b)] [] (I r) [] := by
 unfold board_Volume_g at h
 refine holds_fn Tryz.func32 rfl Tryz.ntmps32 rfl rfl rfl (fun lim => ?_)
 refine awp_seq (awp_go hmix (go_run' ttok 2 rfl (go_nil nd (then_norm (awp_seq (awp_seq (awp_go hmix (go_run' ttok 2 rfl ?_))))))))
 obtain ⟨iv, hv1, h⟩ := of_obind h
 refine go_call fn26 (board_isBox_w b.Box iv hv1) rfl rfl rfl rfl rfl rfl rfl ?_
 refine go_run' ttok 1 rfl (go_nil nd (then_norm ?_))
 refine awp_cond (b := (!iv)) rfl (fun c2 => ?_) (fun c2 => ?_)
 ·replace h := of_bif_t h c2
  refine awp_seq (awp_go hmix (go_run' ttok 1 rfl (go_nil nd (then_norm (awp_ret (then_ret ?_))))))
  have e3 := of_some h
  subst e3
  refine ret_ret ?_
  refine fin0 ttok rfl rfl ?_
  exact (wkP_refl _ rfl)
 ·replace h := of_bif_f h c2
  refine awp_skip (then_norm (awp_seq (awp_go hmix (go_run' ttok 3 rfl ?_))))
  refine go_call fn27 (board_length_w b.Box.x _ rfl) rfl rfl rfl rfl rfl rfl rfl ?_
  refine go_run' ttok 3 rfl ?_
  refine go_call fn27 (board_length_w b.Box.y _ rfl) rfl rfl rfl rfl rfl rfl rfl ?_
  refine go_run' ttok 4 rfl ?_
  refine go_call fn27 (board_length_w b.Box.z _ rfl) rfl rfl rfl rfl rfl rfl rfl ?_
  refine go_run' ttok 2 rfl ?_
  refine go_nil (fun _ => by kernel_rfl) ?_
  refine then_norm (awp_ret ?_)
  have e4 := of_some h
  subst e4
  refine ret_ret ?_
  refine fin0 ttok rfl rfl ?_
  exact (wkP_refl _ rfl)
noncomputable def board_Volume_c (N : Nat) (b : TBoard) : Option Int :=
 (Option.bind ((board_isBox_c N) b.Box) (fun iv => (bif (!iv) then some 0 else some (W64 ((W64 ((board_length_g b.Box.x) * (board_length_g b.Box.y))) * (board_length_g b.Box.z))))))
theorem board_Volume_le (N : Nat) (b : TBoard) : OLe (board_Volume_c N b) (board_Volume_g b) := by
 unfold board_Volume_c board_Volume_g
 repeat' (first | exact ole_rfl | exact board_isBox_le _ _ | refine ole_bif ?_ ?_ | refine ole_bind ?_ (fun _ => ?_) | refine ole_let (fun _ => ?_) | refine ole_map ?_ | refine ole_elim (fun _ => ?_) (fun _ => ?_) | refine ole_loop (fun _ => ?_))
noncomputable def board_isMoist_g (n : Int) : Bool :=
 (bif (decide (0 ≤ n)) then (decide (n ≤ 20000)) else false)
theorem board_isMoist_w (n : Int) (r : Bool) (h : board_isMoist_g n = r) : Holds Tryz.prog 33 [(I n)] [] (B r) [] := by
 unfold board_isMoist_g at h
 refine holds_fn Tryz.func33 rfl Tryz.ntmps33 rfl rfl rfl (fun lim => ?_)
 refine awp_seq (awp_go hmix (go_run' ttok 1 rfl (go_nil nd (then_norm (awp_seq (awp_go hmix (go_run' ttok 3 rfl ?_)))))))
 refine go_gcase rfl rfl rfl (fun g1 => ?_) (fun g1 => ?_)
 ·rw [g1]
  replace h := of_bif_t h g1
  refine go_run' ttok 4 rfl (go_nil nd (then_norm (awp_ret ?_)))
  have e2 := h
  subst e2
  refine ret_ret ?_
  refine fin0 ttok rfl rfl ?_
  exact (wkP_refl _ rfl)
 ·rw [g1]
  replace h := of_bif_f h g1
  refine go_run' ttok 4 rfl (go_nil nd (then_norm (awp_ret ?_)))
  have e3 := h
  subst e3
  refine ret_ret ?_
  refine fin0 ttok rfl rfl ?_
  exact (wkP_refl _ rfl)
end Go.Proofs.YtpoehckffpbfiaaGreat
