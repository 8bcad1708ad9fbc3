/- A1d: what functions of the program compute (written by mod.py). -/
import Derived.Test.YtcimnopodmnmmaaA1c
import Derived.KernelRfl
namespace Go.Proofs.Ytcimnopodmnmmaa
open Go Go.Ab
set_option linter.unusedSimpArgs false
set_option linter.unusedVariables false
set_option linter.unusedSectionVars false
set_option maxRecDepth 20000
set_option maxHeartbeats 1000000

noncomputable def r27_Most_s1 (sizes : (List Int)) (prices : (List Int)) (i : Int) : Option (Int ⊕ (((List Int) × Int × Int) ⊕ Unit)) :=
 (bif (decide (i < ((sizes.length : Nat) : Int))) then (Option.bind (getI sizes i) (fun e => (bif (decide (e < 1)) then some (Sum.inr (Sum.inl ([], 0, 9))) else (Option.bind (getI sizes i) (fun e1 => (bif (decide (600 < e1)) then some (Sum.inr (Sum.inl ([], 0, 9))) else (Option.bind (getI prices i) (fun e2 => (bif (decide (e2 < 0)) then some (Sum.inr (Sum.inl ([], 0, 9))) else (Option.bind (getI prices i) (fun e3 => (bif (decide (1000000 < e3)) then some (Sum.inr (Sum.inl ([], 0, 9))) else some (Sum.inl (W64 (i + 1))))))))))))))) else some (Sum.inr (Sum.inr ())))
noncomputable def r27_Most_s2 (i1 : Int) (known1 : (List Int)) : Option ((Int × (List Int)) ⊕ (List Int)) :=
 (bif (decide (i1 < ((known1.length : Nat) : Int))) then (Option.bind (getI known1 i1) (fun e4 => some (Sum.inl ((W64 (i1 + 1)), (setI known1 i1 (-2)))))) else some (Sum.inr known1))
noncomputable def r27_Most_s3 (thick : Int) (kerf : Int) (sizes : (List Int)) (prices : (List Int)) (n1 : Int) (most1 : Int) (k : Int) (known3 : (List Int)) : Option ((Int × Int × Int × (List Int)) ⊕ ((List Int) × Int × Int)) :=
 (bif (decide (k ≤ 8)) then (Option.bind (r27_best_g k 0 (W64 (thick + kerf)) sizes prices known3 kerf (W64 ((W64 (thick + kerf)) + 1))) (fun bv => (bif (Nat.beq bv.2.length known3.length) then (bif (decide (most1 < bv.1)) then some (Sum.inl (k, bv.1, (W64 (k + 1)), bv.2)) else some (Sum.inl (n1, most1, (W64 (k + 1)), bv.2))) else none))) else some (Sum.inr (known3, n1, most1)))
noncomputable def r27_Most_s4 (thick : Int) (kerf : Int) (sizes : (List Int)) (prices : (List Int)) (n2 : Int) (out1 : (List Int)) (room : Int) (vfirst : Int) (known4 : (List Int)) : Option ((Int × (List Int) × Int × Int × (List Int)) ⊕ (List Int)) :=
 (bif (decide (0 < n2)) then (Option.bind ((Option.bind (getI sizes vfirst) (fun e5 => (bif (decide ((W64 (e5 + kerf)) ≤ room)) then (Option.bind (getI sizes vfirst) (fun e6 => (Option.bind (r27_best_g (W64 (n2 - 1)) vfirst (W64 ((W64 (room - e6)) - kerf)) sizes prices known4 kerf (W64 ((W64 (thick + kerf)) + 1))) (fun bv1 => (bif (Nat.beq bv1.2.length known4.length) then some (bv1.2, bv1.1) else none))))) else some (known4, (-1))))) : Option ((List Int) × Int)) (fun w7 => (Option.bind ((bif (decide (0 ≤ w7.2)) then (Option.bind (getI prices vfirst) (fun e7 => (Option.bind (r27_best_g n2 vfirst room sizes prices w7.1 kerf (W64 ((W64 (thick + kerf)) + 1))) (fun bv2 => (bif (Nat.beq bv2.2.length w7.1.length) then some (bv2.2, ((W64 (e7 + w7.2)) == bv2.1)) else none))))) else some (w7.1, false)) : Option ((List Int) × Bool)) (fun w6 => (bif w6.2 then (Option.bind (appO 8 out1 ([vfirst])) (fun l => (Option.bind (getI sizes vfirst) (fun e8 => some (Sum.inl ((W64 (n2 - 1)), l, (W64 ((W64 (room - e8)) - kerf)), vfirst, w6.1)))))) else some (Sum.inl (n2, out1, room, (W64 (vfirst + 1)), w6.1))))))) else some (Sum.inr out1))
/-- sawmill/sawmillref27.Most -/
noncomputable def r27_Most_g (thick : Int) (kerf : Int) (sizes : (List Int)) (prices : (List Int)) : Option ((List Int) × Int × Int) :=
 (bif (!(r27_cut_g thick kerf)) then some ([], 0, 9) else (bif (((sizes.length : Nat) : Int) == 0) then some ([], 0, 3) else (bif (decide (32 < ((sizes.length : Nat) : Int))) then some ([], 0, 4) else (bif (((prices.length : Nat) : Int) != ((sizes.length : Nat) : Int)) then some ([], 0, 19) else (Option.bind ((loopO (fun q => r27_Most_s1 sizes prices q) 0) : Option (((List Int) × Int × Int) ⊕ Unit)) (Sum.elim (fun q => some q) (fun _ => (Option.bind (mkO 8 0 (W64 ((W64 (9 * ((sizes.length : Nat) : Int))) * (W64 ((W64 (thick + kerf)) + 1))))) (fun m => (Option.bind ((loopO (fun q => r27_Most_s2 q.1 q.2) (0, m)) : Option (List Int)) (fun known => (Option.bind ((loopO (fun q => r27_Most_s3 thick kerf sizes prices q.1 q.2.1 q.2.2.1 q.2.2.2) (0, 0, 1, known)) : Option ((List Int) × Int × Int)) (fun w8 => (Option.bind ((loopO (fun q => r27_Most_s4 thick kerf sizes prices q.1 q.2.1 q.2.2.1 q.2.2.2.1 q.2.2.2.2) (w8.2.1, [], (W64 (thick + kerf)), 0, w8.1)) : Option (List Int)) (fun out => some (out, w8.2.2, 0))))))))))))))))
theorem r27_Most_w (thick : Int) (kerf : Int) (sizes : (List Int)) (prices : (List Int)) (r : ((List Int) × Int × Int)) (h : r27_Most_g thick kerf sizes prices = some r) : Holds Try.prog 20 [(I thick), (I kerf), ((encL I) sizes), ((encL I) prices)] [] (.tup [((encL I) r.1), (I r.2.1), (I r.2.2)]) [] := by
 unfold r27_Most_g at h
 refine holds_fn Try.func20 rfl Try.ntmps20 rfl rfl rfl (fun lim => ?_)
 refine awp_seq (awp_go hmix (go_run' ttok 3 rfl (go_nil nd (then_norm (awp_seq (awp_seq (awp_go hmix (go_run' ttok 2 rfl ?_))))))))
 refine go_call fn35 (r27_cut_w thick kerf _ rfl) rfl rfl rfl rfl rfl rfl rfl ?_
 refine go_run' ttok 1 rfl (go_nil nd (then_norm ?_))
 refine awp_cond (b := (!(r27_cut_g thick kerf))) rfl (fun c1 => ?_) (fun c1 => ?_)
 ·replace h := of_bif_t h c1
  refine awp_seq (awp_go hmix (go_run' ttok 3 rfl (go_nil nd (then_norm (awp_ret (then_ret ?_))))))
  have e2 := of_some h
  subst e2
  refine ret_ret ?_
  refine fin0 ttok rfl rfl ?_
  exact ⟨wkP_nilm, (wkP_refl _ rfl), (wkP_refl _ rfl), trivial⟩
 ·replace h := of_bif_f h c1
  refine awp_skip (then_norm (awp_seq (awp_seq (awp_go hmix (go_run' ttok 1 rfl ?_)))))
  refine go_lenT I sizes ttok rfl rfl rfl rfl rfl rfl ?_
  refine go_run' ttok 1 rfl (go_nil nd (then_norm ?_))
  refine awp_cond (b := (((sizes.length : Nat) : Int) == 0)) rfl (fun c3 => ?_) (fun c3 => ?_)
  ·replace h := of_bif_t h c3
   refine awp_seq (awp_go hmix (go_run' ttok 3 rfl (go_nil nd (then_norm (awp_ret (then_ret ?_))))))
   have e4 := of_some h
   subst e4
   refine ret_ret ?_
   refine fin0 ttok rfl rfl ?_
   exact ⟨wkP_nilm, (wkP_refl _ rfl), (wkP_refl _ rfl), trivial⟩
  ·replace h := of_bif_f h c3
   refine awp_skip (then_norm (awp_seq (awp_seq (awp_go hmix (go_run' ttok 1 rfl ?_)))))
   refine go_lenT I sizes ttok rfl rfl rfl rfl rfl rfl ?_
   refine go_run' ttok 1 rfl (go_nil nd (then_norm ?_))
   refine awp_cond (b := (decide (32 < ((sizes.length : Nat) : Int)))) rfl (fun c5 => ?_) (fun c5 => ?_)
   ·replace h := of_bif_t h c5
    refine awp_seq (awp_go hmix (go_run' ttok 3 rfl (go_nil nd (then_norm (awp_ret (then_ret ?_))))))
    have e6 := of_some h
    subst e6
    refine ret_ret ?_
    refine fin0 ttok rfl rfl ?_
    exact ⟨wkP_nilm, (wkP_refl _ rfl), (wkP_refl _ rfl), trivial⟩
   ·replace h := of_bif_f h c5
    refine awp_skip (then_norm (awp_seq (awp_seq (awp_go hmix (go_run' ttok 1 rfl ?_)))))
    refine go_lenT I prices ttok rfl rfl rfl rfl rfl rfl ?_
    refine go_run' ttok 1 rfl ?_
    refine go_lenT I sizes ttok rfl rfl rfl rfl rfl rfl ?_
    refine go_run' ttok 1 rfl (go_nil nd (then_norm ?_))
    refine awp_cond (b := (((prices.length : Nat) : Int) != ((sizes.length : Nat) : Int))) rfl (fun c7 => ?_) (fun c7 => ?_)
    ·replace h := of_bif_t h c7
     refine awp_seq (awp_go hmix (go_run' ttok 3 rfl (go_nil nd (then_norm (awp_ret (then_ret ?_))))))
     have e8 := of_some h
     subst e8
     refine ret_ret ?_
     refine fin0 ttok rfl rfl ?_
     exact ⟨wkP_nilm, (wkP_refl _ rfl), (wkP_refl _ rfl), trivial⟩
    ·replace h := of_bif_f h c7
     refine awp_skip (then_norm ?_)
     obtain ⟨y, hx9, h⟩ := of_obind h
     refine awp_seqJ (X := Unit) [0, 1, 2, 3] [] (fun _ => []) (fun _ => []) (fun w => Sum.inr w = y) rfl rfl ?_ ?_
     ·skip
      refine awp_seq (awp_go hmix (go_run' ttok 1 rfl (go_nil nd (then_norm (awp_block ?_)))))
      refine awp_loopD (X := Int) (Y := (((List Int) × Int × Int) ⊕ Unit)) [0, 1, 2, 3] [] (fun q => [(11, (I q))]) (fun q => []) (fun q => r27_Most_s1 sizes prices q) 0 [] hx9 ⟨rfl, rfl, rfl, rfl, rfl, ⟨wkP_id _ rfl, trivial⟩, trivial⟩ (fun i vR vz hz11 hk12 => ?_)
      change r27_Most_s1 sizes prices i = _ at hz11
      unfold r27_Most_s1 at hz11
      refine awp_seq (awp_seq (awp_go hmix (go_run' ttok 2 rfl ?_)))
      refine go_lenT I sizes ttok rfl rfl rfl rfl rfl rfl ?_
      refine go_run' ttok 1 rfl (go_nil nd (then_norm ?_))
      refine awp_cond (b := (decide (i < ((sizes.length : Nat) : Int)))) rfl (fun c13 => ?_) (fun c13 => ?_)
      ·replace hz11 := of_bif_t hz11 c13
       refine awp_skip (then_norm (awp_seq (awp_block (awp_seq (awp_go hmix (go_run' ttok 2 rfl ?_))))))
       obtain ⟨e, hv14, hz11⟩ := of_obind hz11
       refine go_indexT I sizes i e hv14 ttok rfl rfl rfl rfl rfl rfl rfl rfl rfl ?_
       refine go_run' ttok 3 rfl ?_
       refine go_gcase rfl rfl rfl (fun g15 => ?_) (fun g15 => ?_)
       ·rw [g15]
        replace hz11 := of_bif_t hz11 g15
        refine go_run' ttok 20 rfl (go_nil nd (then_norm ?_))
        refine awp_cond rfl (fun tt0 => ?_) (fun h => by cases h)
        clear tt0
        refine awp_seq (awp_go hmix (go_run' ttok 3 rfl (go_nil nd (then_norm (awp_ret (block_ret (then_ret ?_)))))))
        obtain ⟨t, hn16, hq⟩ := of_mapr' hz11
        subst hq
        have hq : t = _ := hk12
        subst hq
        refine then_ret (block_ret ?_)
        obtain ⟨t1, hn17, hq⟩ := of_mapl' hn16
        subst hq
        have hq := of_inl h
        replace hq := of_some hq
        subst hq
        refine then_ret ?_
        have e18 := of_some hn17
        subst e18
        refine ret_ret ?_
        refine fin0 ttok rfl rfl ?_
        exact ⟨wkP_nilm, (wkP_refl _ rfl), (wkP_refl _ rfl), trivial⟩
       ·rw [g15]
        replace hz11 := of_bif_f hz11 g15
        refine go_run' ttok 2 rfl ?_
        obtain ⟨e1, hv19, hz11⟩ := of_obind hz11
        refine go_indexT I sizes i e1 hv19 ttok rfl rfl rfl rfl rfl rfl rfl rfl rfl ?_
        refine go_run' ttok 4 rfl ?_
        refine go_gcase rfl rfl rfl (fun g20 => ?_) (fun g20 => ?_)
        ·rw [g20]
         replace hz11 := of_bif_t hz11 g20
         refine go_run' ttok 13 rfl (go_nil nd (then_norm ?_))
         refine awp_cond rfl (fun tt0 => ?_) (fun h => by cases h)
         clear tt0
         refine awp_seq (awp_go hmix (go_run' ttok 3 rfl (go_nil nd (then_norm (awp_ret (block_ret (then_ret ?_)))))))
         obtain ⟨t2, hn21, hq⟩ := of_mapr' hz11
         subst hq
         have hq : t2 = _ := hk12
         subst hq
         refine then_ret (block_ret ?_)
         obtain ⟨t3, hn22, hq⟩ := of_mapl' hn21
         subst hq
         have hq := of_inl h
         replace hq := of_some hq
         subst hq
         refine then_ret ?_
         have e23 := of_some hn22
         subst e23
         refine ret_ret ?_
         refine fin0 ttok rfl rfl ?_
         exact ⟨wkP_nilm, (wkP_refl _ rfl), (wkP_refl _ rfl), trivial⟩
        ·rw [g20]
         replace hz11 := of_bif_f hz11 g20
         refine go_run' ttok 2 rfl ?_
         obtain ⟨e2, hv24, hz11⟩ := of_obind hz11
         refine go_indexT I prices i e2 hv24 ttok rfl rfl rfl rfl rfl rfl rfl rfl rfl ?_
         refine go_run' ttok 4 rfl ?_
         refine go_gcase rfl rfl rfl (fun g25 => ?_) (fun g25 => ?_)
         ·rw [g25]
          replace hz11 := of_bif_t hz11 g25
          refine go_run' ttok 6 rfl (go_nil nd (then_norm ?_))
          refine awp_cond rfl (fun tt0 => ?_) (fun h => by cases h)
          clear tt0
          refine awp_seq (awp_go hmix (go_run' ttok 3 rfl (go_nil nd (then_norm (awp_ret (block_ret (then_ret ?_)))))))
          obtain ⟨t4, hn26, hq⟩ := of_mapr' hz11
          subst hq
          have hq : t4 = _ := hk12
          subst hq
          refine then_ret (block_ret ?_)
          obtain ⟨t5, hn27, hq⟩ := of_mapl' hn26
          subst hq
          have hq := of_inl h
          replace hq := of_some hq
          subst hq
          refine then_ret ?_
          have e28 := of_some hn27
          subst e28
          refine ret_ret ?_
          refine fin0 ttok rfl rfl ?_
          exact ⟨wkP_nilm, (wkP_refl _ rfl), (wkP_refl _ rfl), trivial⟩
         ·rw [g25]
          replace hz11 := of_bif_f hz11 g25
          refine go_run' ttok 2 rfl ?_
          obtain ⟨e3, hv29, hz11⟩ := of_obind hz11
          refine go_indexT I prices i e3 hv29 ttok rfl rfl rfl rfl rfl rfl rfl rfl rfl ?_
          refine go_run' ttok 3 rfl (go_nil nd (then_norm ?_))
          refine awp_cond (b := (decide (1000000 < e3))) rfl (fun c30 => ?_) (fun c30 => ?_)
          ·replace hz11 := of_bif_t hz11 c30
           refine awp_seq (awp_go hmix (go_run' ttok 3 rfl (go_nil nd (then_norm (awp_ret (block_ret (then_ret ?_)))))))
           obtain ⟨t6, hn31, hq⟩ := of_mapr' hz11
           subst hq
           have hq : t6 = _ := hk12
           subst hq
           refine then_ret (block_ret ?_)
           obtain ⟨t7, hn32, hq⟩ := of_mapl' hn31
           subst hq
           have hq := of_inl h
           replace hq := of_some hq
           subst hq
           refine then_ret ?_
           have e33 := of_some hn32
           subst e33
           refine ret_ret ?_
           refine fin0 ttok rfl rfl ?_
           exact ⟨wkP_nilm, (wkP_refl _ rfl), (wkP_refl _ rfl), trivial⟩
          ·replace hz11 := of_bif_f hz11 c30
           refine awp_skip (block_norm (then_norm (awp_go hmix (go_run' ttok 3 rfl (go_nil nd ?_)))))
           have e34 := of_some hz11
           subst e34
           refine then_norm ⟨rfl, (W64 (i + 1)), [], ⟨rfl, rfl, rfl, rfl, rfl, ⟨wkP_id _ rfl, trivial⟩, trivial⟩, hk12⟩
      ·replace hz11 := of_bif_f hz11 c13
       refine awp_exit (then_exit ?_)
       obtain ⟨t8, hn35, hq⟩ := of_mapr' hz11
       subst hq
       have hq : t8 = _ := hk12
       subst hq
       refine then_exit (block_here ?_)
       have e36 := of_some hn35
       refine then_norm ⟨rfl, (), [], ⟨rfl, rfl, rfl, rfl, rfl, trivial, trivial⟩, e36⟩
     ·intro w hw10
      subst hw10
      replace h := of_inr h
      refine awp_seq (awp_go hmix (go_run' ttok 5 rfl (go_nil nd (then_norm (awp_seq (awp_go hmix (go_run' ttok 1 rfl ?_)))))))
      refine go_lenT I sizes ttok rfl rfl rfl rfl rfl rfl ?_
      refine go_run' ttok 3 rfl ?_
      obtain ⟨m, hv37, h⟩ := of_obind h
      refine go_makeT I 0 (W64 ((W64 (9 * ((sizes.length : Nat) : Int))) * (W64 ((W64 (thick + kerf)) + 1)))) m hv37 ttok rfl rfl rfl rfl rfl rfl rfl rfl rfl rfl rfl rfl rfl ?_
      refine go_run' ttok 1 rfl (go_nil nd (then_norm ?_))
      obtain ⟨y1, hx38, h⟩ := of_obind h
      refine awp_seqJ (X := (List Int)) [0, 1, 2, 3, 12] [] (fun w1 => [(13, (.arr 79 0 w1.length))]) (fun w1 => [(79, some ⟨3, 1, w1.map I⟩)]) (fun w1 => w1 = y1) rfl rfl ?_ ?_
      ·skip
       refine awp_seq (awp_go hmix (go_run' ttok 1 rfl (go_nil nd (then_norm (awp_block ?_)))))
       refine awp_loopD (X := (Int × (List Int))) (Y := (List Int)) [0, 1, 2, 3, 12] [] (fun q => [(14, (I q.1)), (13, (.arr 79 0 q.2.length))]) (fun q => [(79, some ⟨3, 1, q.2.map I⟩)]) (fun q => r27_Most_s2 q.1 q.2) (0, m) [(79, some 79)] hx38 ⟨rfl, rfl, rfl, rfl, rfl, ⟨wkP_id _ rfl, ⟨rfl, rfl, (by first | rfl | (simp [setI]; done) | omega | (dsimp only; omega) | (simp [setI]; omega))⟩, trivial⟩, ⟨⟨_, rfl, rfl, rfl, wkX_map (enc := I) m (fun _ => rfl)⟩, trivial⟩⟩ (fun x vR1 vz1 hz40 hk41 => ?_)
       obtain ⟨i1, known1⟩ := x
       change r27_Most_s2 i1 known1 = _ at hz40
       unfold r27_Most_s2 at hz40
       refine awp_seq (awp_seq (awp_go hmix (go_run' ttok 4 rfl (go_nil nd (then_norm ?_)))))
       refine awp_cond (b := (decide (i1 < ((known1.length : Nat) : Int)))) rfl (fun c42 => ?_) (fun c42 => ?_)
       ·replace hz40 := of_bif_t hz40 c42
        refine awp_skip (then_norm (awp_seq (awp_block (awp_go hmix (go_run' ttok 2 rfl ?_)))))
        obtain ⟨e4, hv43, hz40⟩ := of_obind hz40
        refine go_indexAT I known1 i1 e4 hv43 (by first | rfl | (simp [setI]; done) | omega | (dsimp only; omega) | (simp [setI]; omega)) ttok rfl rfl rfl rfl rfl rfl rfl rfl rfl rfl ?_
        refine go_storeT I known1 i1 e4 (-2) hv43 ttok rfl rfl rfl rfl rfl rfl rfl rfl rfl rfl rfl rfl ?_
        refine go_nil nd (block_norm (then_norm (awp_go hmix (go_run' ttok 3 rfl (go_nil nd ?_)))))
        have e44 := of_some hz40
        subst e44
        refine then_norm ⟨rfl, ((W64 (i1 + 1)), (setI known1 i1 (-2))), [(79, some 79)], ⟨rfl, rfl, rfl, rfl, rfl, ⟨wkP_id _ rfl, ⟨rfl, rfl, (by first | rfl | (simp [setI]; done) | omega | (dsimp only; omega) | (simp [setI]; omega))⟩, trivial⟩, ⟨⟨_, rfl, rfl, rfl, wkX_map (enc := I) (setI known1 i1 (-2)) (fun _ => rfl)⟩, trivial⟩⟩, hk41⟩
       ·replace hz40 := of_bif_f hz40 c42
        refine awp_exit (then_exit ?_)
        obtain ⟨t9, hn45, hq⟩ := of_mapr' hz40
        subst hq
        have hq : t9 = _ := hk41
        subst hq
        refine then_exit (block_here ?_)
        have e46 := of_some hn45
        refine then_norm ⟨rfl, known1, [(79, some 79)], ⟨rfl, rfl, rfl, rfl, rfl, ⟨⟨rfl, rfl, (by first | rfl | (simp [setI]; done) | omega | (dsimp only; omega) | (simp [setI]; omega))⟩, trivial⟩, ⟨⟨_, rfl, rfl, rfl, wkX_map (enc := I) known1 (fun _ => rfl)⟩, trivial⟩⟩, e46⟩
      ·intro known hw39
       subst hw39
       refine awp_seq (awp_go hmix (go_run' ttok 2 rfl (go_nil nd (then_norm ?_))))
       obtain ⟨y2, hx47, h⟩ := of_obind h
       refine awp_seqJ (X := ((List Int) × Int × Int)) [0, 1, 2, 3, 12] [] (fun w2 => [(13, (.arr 79 0 w2.1.length)), (15, (I w2.2.1)), (16, (I w2.2.2))]) (fun w2 => [(79, some ⟨3, 1, w2.1.map I⟩)]) (fun w2 => w2 = y2) rfl rfl ?_ ?_
       ·skip
        refine awp_seq (awp_go hmix (go_run' ttok 1 rfl (go_nil nd (then_norm (awp_block ?_)))))
        refine awp_loopD (X := (Int × Int × Int × (List Int))) (Y := ((List Int) × Int × Int)) [0, 1, 2, 3, 12] [] (fun q => [(15, (I q.1)), (16, (I q.2.1)), (17, (I q.2.2.1)), (13, (.arr 79 0 q.2.2.2.length))]) (fun q => [(79, some ⟨3, 1, q.2.2.2.map I⟩)]) (fun q => r27_Most_s3 thick kerf sizes prices q.1 q.2.1 q.2.2.1 q.2.2.2) (0, 0, 1, known) [(79, some 79)] hx47 ⟨rfl, rfl, rfl, rfl, rfl, ⟨wkP_id _ rfl, wkP_id _ rfl, wkP_id _ rfl, ⟨rfl, rfl, (by first | rfl | (simp [setI]; done) | omega | (dsimp only; omega) | (simp [setI]; omega))⟩, trivial⟩, ⟨⟨_, rfl, rfl, rfl, wkX_map (enc := I) known (fun _ => rfl)⟩, trivial⟩⟩ (fun x1 vR2 vz2 hz49 hk50 => ?_)
        obtain ⟨n1, most1, k, known3⟩ := x1
        change r27_Most_s3 thick kerf sizes prices n1 most1 k known3 = _ at hz49
        unfold r27_Most_s3 at hz49
        refine awp_seq (awp_seq (awp_go hmix (go_run' ttok 2 rfl (go_nil nd (then_norm ?_)))))
        refine awp_cond (b := (decide (k ≤ 8))) rfl (fun c51 => ?_) (fun c51 => ?_)
        ·replace hz49 := of_bif_t hz49 c51
         refine awp_skip (then_norm (awp_seq (awp_block (awp_seq (awp_go hmix (go_run' ttok 9 rfl ?_))))))
         obtain ⟨bv, hv52, hz49⟩ := of_obind hz49
         obtain ⟨g53, hz49⟩ := of_grd hz49
         have hl54 : bv.2.length = known3.length := Nat.eq_of_beq_eq_true g53
         refine go_callM (I bv.1) [] [(79, some ⟨3, 1, bv.2.map I⟩)] [(1305, some 79)] [(79, some 1305)] fn37 (r27_best_w k 0 (W64 (thick + kerf)) sizes prices known3 kerf (W64 ((W64 (thick + kerf)) + 1)) bv hv52) rfl rfl rfl rfl rfl trivial ⟨(wkP_refl _ rfl), (wkP_refl _ rfl), (wkP_refl _ rfl), (wkP_refl _ rfl), (wkP_refl _ rfl), ⟨rfl, rfl, (by first | rfl | (simp [setI]; done) | omega | (dsimp only; omega) | (simp [setI]; omega))⟩, (wkP_refl _ rfl), (wkP_refl _ rfl), trivial⟩ rfl rfl ⟨⟨_, rfl, rfl, rfl, wkX_map (enc := I) known3 (fun _ => rfl)⟩, trivial⟩ rfl rfl ⟨⟨_, rfl, rfl, rfl, wkX_map (enc := I) bv.2 (fun _ => rfl)⟩, trivial⟩ (wkP_refl _ rfl) rfl (fun h => absurd rfl h) rfl rfl rfl ?_
         refine go_run' ttok 1 rfl (go_nil nd (then_norm (awp_seq (awp_go hmix (go_run' ttok 3 rfl (go_nil nd (then_norm ?_)))))))
         refine awp_cond (b := (decide (most1 < bv.1))) rfl (fun c55 => ?_) (fun c55 => ?_)
         ·replace hz49 := of_bif_t hz49 c55
          refine awp_go hmix (go_run' ttok 4 rfl (go_nil nd (block_norm (then_norm (awp_go hmix (go_run' ttok 3 rfl (go_nil nd ?_)))))))
          have e56 := of_some hz49
          subst e56
          refine then_norm ⟨rfl, (k, bv.1, (W64 (k + 1)), bv.2), [(79, some 79)], ⟨rfl, rfl, rfl, rfl, rfl, ⟨wkP_id _ rfl, wkP_id _ rfl, wkP_id _ rfl, ⟨rfl, rfl, (by first | rfl | (simp [setI]; done) | omega | (dsimp only; omega) | (simp [setI]; omega))⟩, trivial⟩, ⟨⟨_, rfl, rfl, rfl, wkX_map (enc := I) bv.2 (fun _ => rfl)⟩, trivial⟩⟩, hk50⟩
         ·replace hz49 := of_bif_f hz49 c55
          refine awp_skip (block_norm (then_norm (awp_go hmix (go_run' ttok 3 rfl (go_nil nd ?_)))))
          have e57 := of_some hz49
          subst e57
          refine then_norm ⟨rfl, (n1, most1, (W64 (k + 1)), bv.2), [(79, some 79)], ⟨rfl, rfl, rfl, rfl, rfl, ⟨wkP_id _ rfl, wkP_id _ rfl, wkP_id _ rfl, ⟨rfl, rfl, (by first | rfl | (simp [setI]; done) | omega | (dsimp only; omega) | (simp [setI]; omega))⟩, trivial⟩, ⟨⟨_, rfl, rfl, rfl, wkX_map (enc := I) bv.2 (fun _ => rfl)⟩, trivial⟩⟩, hk50⟩
        ·replace hz49 := of_bif_f hz49 c51
         refine awp_exit (then_exit ?_)
         obtain ⟨t10, hn58, hq⟩ := of_mapr' hz49
         subst hq
         have hq : t10 = _ := hk50
         subst hq
         refine then_exit (block_here ?_)
         have e59 := of_some hn58
         refine then_norm ⟨rfl, (known3, n1, most1), [(79, some 79)], ⟨rfl, rfl, rfl, rfl, rfl, ⟨⟨rfl, rfl, (by first | rfl | (simp [setI]; done) | omega | (dsimp only; omega) | (simp [setI]; omega))⟩, wkP_id _ rfl, wkP_id _ rfl, trivial⟩, ⟨⟨_, rfl, rfl, rfl, wkX_map (enc := I) known3 (fun _ => rfl)⟩, trivial⟩⟩, e59⟩
       ·intro w2 hw48
        subst hw48
        obtain ⟨known2, n, most⟩ := w2
        refine awp_seq (awp_go hmix (go_run' ttok 1 rfl (go_nil nd (then_norm (awp_seq (awp_go hmix (go_run' ttok 5 rfl (go_nil nd (then_norm ?_)))))))))
        obtain ⟨y3, hx60, h⟩ := of_obind h
        refine awp_seqJ (X := (List Int)) [16] [] (fun w3 => [(19, (.arr 19 0 w3.length))]) (fun w3 => [(19, some ⟨3, 1, w3.map I⟩)]) (fun w3 => w3 = y3) rfl rfl ?_ ?_
        ·skip
         refine awp_block ?_
         refine awp_loopD (X := (Int × (List Int) × Int × Int × (List Int))) (Y := (List Int)) [1, 2, 3, 12, 16] [] (fun q => [(15, (I q.1)), (19, (.arr 19 0 q.2.1.length)), (20, (I q.2.2.1)), (21, (I q.2.2.2.1)), (13, (.arr 79 0 q.2.2.2.2.length))]) (fun q => [(19, some ⟨3, 1, q.2.1.map I⟩), (79, some ⟨3, 1, q.2.2.2.2.map I⟩)]) (fun q => r27_Most_s4 thick kerf sizes prices q.1 q.2.1 q.2.2.1 q.2.2.2.1 q.2.2.2.2) (n, [], (W64 (thick + kerf)), 0, known2) [(19, none), (79, some 79)] hx60 ⟨rfl, rfl, rfl, rfl, rfl, ⟨wkP_id _ rfl, ⟨rfl, rfl, (by first | rfl | (simp [setI]; done) | omega | (dsimp only; omega) | (simp [setI]; omega))⟩, wkP_id _ rfl, wkP_id _ rfl, ⟨rfl, rfl, (by first | rfl | (simp [setI]; done) | omega | (dsimp only; omega) | (simp [setI]; omega))⟩, trivial⟩, ⟨rfl, ⟨_, rfl, rfl, rfl, wkX_map (enc := I) known2 (fun _ => rfl)⟩, trivial⟩⟩ (fun x2 vR3 vz3 hz62 hk63 => ?_)
         obtain ⟨n2, out1, room, vfirst, known4⟩ := x2
         change r27_Most_s4 thick kerf sizes prices n2 out1 room vfirst known4 = _ at hz62
         unfold r27_Most_s4 at hz62
         refine awp_seq (awp_seq (awp_go hmix (go_run' ttok 2 rfl (go_nil nd (then_norm ?_)))))
         refine awp_cond (b := (decide (0 < n2))) rfl (fun c64 => ?_) (fun c64 => ?_)
         ·replace hz62 := of_bif_t hz62 c64
          refine awp_skip (then_norm (awp_block (awp_seq (awp_go hmix (go_run' ttok 1 rfl (go_nil nd (then_norm ?_)))))))
          obtain ⟨y4, hx65, hz62⟩ := of_obind hz62
          refine awp_seqJ (X := ((List Int) × Int)) [1, 2, 3, 12, 15, 16, 20, 21] [] (fun w4 => [(13, (.arr 79 0 w4.1.length)), (19, (.arr 19 0 out1.length)), (22, (I w4.2))]) (fun w4 => [(79, some ⟨3, 1, w4.1.map I⟩), (19, some ⟨3, 1, out1.map I⟩)]) (fun w4 => w4 = y4) rfl rfl ?_ ?_
          ·skip
           refine awp_seq (awp_go hmix (go_run' ttok 2 rfl ?_))
           obtain ⟨e5, hv67, hx65⟩ := of_obind hx65
           refine go_indexT I sizes vfirst e5 hv67 ttok rfl rfl rfl rfl rfl rfl rfl rfl rfl ?_
           refine go_run' ttok 5 rfl (go_nil nd (then_norm ?_))
           refine awp_cond (b := (decide ((W64 (e5 + kerf)) ≤ room))) rfl (fun c68 => ?_) (fun c68 => ?_)
           ·replace hx65 := of_bif_t hx65 c68
            refine awp_go hmix (go_run' ttok 6 rfl ?_)
            obtain ⟨e6, hv69, hx65⟩ := of_obind hx65
            refine go_indexT I sizes vfirst e6 hv69 ttok rfl rfl rfl rfl rfl rfl rfl rfl rfl ?_
            refine go_run' ttok 9 rfl ?_
            obtain ⟨bv1, hv70, hx65⟩ := of_obind hx65
            obtain ⟨g71, hx65⟩ := of_grd hx65
            have hl72 : bv1.2.length = known4.length := Nat.eq_of_beq_eq_true g71
            refine go_callM (I bv1.1) [] [(79, some ⟨3, 1, bv1.2.map I⟩)] [(1305, some 79)] [(79, some 1305)] fn37 (r27_best_w (W64 (n2 - 1)) vfirst (W64 ((W64 (room - e6)) - kerf)) sizes prices known4 kerf (W64 ((W64 (thick + kerf)) + 1)) bv1 hv70) rfl rfl rfl rfl rfl trivial ⟨(wkP_refl _ rfl), (wkP_refl _ rfl), (wkP_refl _ rfl), (wkP_refl _ rfl), (wkP_refl _ rfl), ⟨rfl, rfl, (by first | rfl | (simp [setI]; done) | omega | (dsimp only; omega) | (simp [setI]; omega))⟩, (wkP_refl _ rfl), (wkP_refl _ rfl), trivial⟩ rfl rfl ⟨⟨_, rfl, rfl, rfl, wkX_map (enc := I) known4 (fun _ => rfl)⟩, trivial⟩ rfl rfl ⟨⟨_, rfl, rfl, rfl, wkX_map (enc := I) bv1.2 (fun _ => rfl)⟩, trivial⟩ (wkP_refl _ rfl) rfl (fun h => absurd rfl h) rfl rfl rfl ?_
            refine go_run' ttok 1 rfl (go_nil nd ?_)
            have e73 := of_some hx65
            refine then_norm ⟨rfl, (bv1.2, bv1.1), [(79, some 79), (19, some 19)], ⟨rfl, rfl, rfl, rfl, rfl, ⟨⟨rfl, rfl, (by first | rfl | (simp [setI]; done) | omega | (dsimp only; omega) | (simp [setI]; omega))⟩, ⟨rfl, rfl, (by first | rfl | (simp [setI]; done) | omega | (dsimp only; omega) | (simp [setI]; omega))⟩, wkP_id _ rfl, trivial⟩, ⟨⟨_, rfl, rfl, rfl, wkX_map (enc := I) bv1.2 (fun _ => rfl)⟩, ⟨_, rfl, rfl, rfl, wkX_map (enc := I) out1 (fun _ => rfl)⟩, trivial⟩⟩, e73⟩
           ·replace hx65 := of_bif_f hx65 c68
            refine awp_skip ?_
            have e74 := of_some hx65
            refine then_norm ⟨rfl, (known4, (-1)), [(79, some 79), (19, some 19)], ⟨rfl, rfl, rfl, rfl, rfl, ⟨⟨rfl, rfl, (by first | rfl | (simp [setI]; done) | omega | (dsimp only; omega) | (simp [setI]; omega))⟩, ⟨rfl, rfl, (by first | rfl | (simp [setI]; done) | omega | (dsimp only; omega) | (simp [setI]; omega))⟩, wkP_id _ rfl, trivial⟩, ⟨⟨_, rfl, rfl, rfl, wkX_map (enc := I) known4 (fun _ => rfl)⟩, ⟨_, rfl, rfl, rfl, wkX_map (enc := I) out1 (fun _ => rfl)⟩, trivial⟩⟩, e74⟩
          ·intro w4 hw66
           subst hw66
           obtain ⟨known5, rest⟩ := w4
           obtain ⟨y5, hx75, hz62⟩ := of_obind hz62
           refine awp_seqJ (X := ((List Int) × Bool)) [1, 2, 3, 12, 15, 16, 20, 21] [] (fun w5 => [(13, (.arr 79 0 w5.1.length)), (19, (.arr 19 0 out1.length)), (157, (B w5.2))]) (fun w5 => [(79, some ⟨3, 1, w5.1.map I⟩), (19, some ⟨3, 1, out1.map I⟩)]) (fun w5 => w5 = y5) rfl rfl ?_ ?_
           ·skip
            refine awp_go hmix (go_run' ttok 3 rfl ?_)
            refine go_gcase rfl rfl rfl (fun g77 => ?_) (fun g77 => ?_)
            ·rw [g77]
             replace hx75 := of_bif_t hx75 g77
             refine go_run' ttok 2 rfl ?_
             obtain ⟨e7, hv78, hx75⟩ := of_obind hx75
             refine go_indexT I prices vfirst e7 hv78 ttok rfl rfl rfl rfl rfl rfl rfl rfl rfl ?_
             refine go_run' ttok 11 rfl ?_
             obtain ⟨bv2, hv79, hx75⟩ := of_obind hx75
             obtain ⟨g80, hx75⟩ := of_grd hx75
             have hl81 : bv2.2.length = known5.length := Nat.eq_of_beq_eq_true g80
             refine go_callM (I bv2.1) [] [(79, some ⟨3, 1, bv2.2.map I⟩)] [(1305, some 79)] [(79, some 1305)] fn37 (r27_best_w n2 vfirst room sizes prices known5 kerf (W64 ((W64 (thick + kerf)) + 1)) bv2 hv79) rfl rfl rfl rfl rfl trivial ⟨(wkP_refl _ rfl), (wkP_refl _ rfl), (wkP_refl _ rfl), (wkP_refl _ rfl), (wkP_refl _ rfl), ⟨rfl, rfl, (by first | rfl | (simp [setI]; done) | omega | (dsimp only; omega) | (simp [setI]; omega))⟩, (wkP_refl _ rfl), (wkP_refl _ rfl), trivial⟩ rfl rfl ⟨⟨_, rfl, rfl, rfl, wkX_map (enc := I) known5 (fun _ => rfl)⟩, trivial⟩ rfl rfl ⟨⟨_, rfl, rfl, rfl, wkX_map (enc := I) bv2.2 (fun _ => rfl)⟩, trivial⟩ (wkP_refl _ rfl) rfl (fun h => absurd rfl h) rfl rfl rfl ?_
             refine go_run' ttok 2 rfl ?_
             refine go_nil (fun _ => by kernel_rfl) ?_
             have e82 := of_some hx75
             refine then_norm ⟨rfl, (bv2.2, ((W64 (e7 + rest)) == bv2.1)), [(79, some 79), (19, some 19)], ⟨rfl, rfl, rfl, rfl, rfl, ⟨⟨rfl, rfl, (by first | rfl | (simp [setI]; done) | omega | (dsimp only; omega) | (simp [setI]; omega))⟩, ⟨rfl, rfl, (by first | rfl | (simp [setI]; done) | omega | (dsimp only; omega) | (simp [setI]; omega))⟩, wkP_id _ rfl, trivial⟩, ⟨⟨_, rfl, rfl, rfl, wkX_map (enc := I) bv2.2 (fun _ => rfl)⟩, ⟨_, rfl, rfl, rfl, wkX_map (enc := I) out1 (fun _ => rfl)⟩, trivial⟩⟩, e82⟩
            ·rw [g77]
             replace hx75 := of_bif_f hx75 g77
             refine go_run' ttok 17 rfl ?_
             refine go_nil (fun _ => by kernel_rfl) ?_
             have e83 := of_some hx75
             refine then_norm ⟨rfl, (known5, false), [(79, some 79), (19, some 19)], ⟨rfl, rfl, rfl, rfl, rfl, ⟨⟨rfl, rfl, (by first | rfl | (simp [setI]; done) | omega | (dsimp only; omega) | (simp [setI]; omega))⟩, ⟨rfl, rfl, (by first | rfl | (simp [setI]; done) | omega | (dsimp only; omega) | (simp [setI]; omega))⟩, wkP_id _ rfl, trivial⟩, ⟨⟨_, rfl, rfl, rfl, wkX_map (enc := I) known5 (fun _ => rfl)⟩, ⟨_, rfl, rfl, rfl, wkX_map (enc := I) out1 (fun _ => rfl)⟩, trivial⟩⟩, e83⟩
           ·intro w5 hw76
            subst hw76
            obtain ⟨known6, vv⟩ := w5
            refine awp_cond (b := vv) rfl (fun c84 => ?_) (fun c84 => ?_)
            ·replace hz62 := of_bif_t hz62 c84
             refine awp_seq (awp_go hmix (go_run' ttok 3 rfl ?_))
             obtain ⟨l, hv85, hz62⟩ := of_obind hz62
             refine go_appT I out1 ([vfirst]) l hv85 (fun _ => rfl) (by first | rfl | (simp [setI]; done) | omega | (dsimp only; omega) | (simp [setI]; omega)) (by first | rfl | (simp [setI]; done) | omega | (dsimp only; omega) | (simp [setI]; omega)) ttok rfl rfl rfl rfl rfl rfl rfl rfl rfl rfl rfl rfl rfl rfl rfl rfl rfl ?_
             refine go_run' ttok 1 rfl (go_nil nd (then_norm (awp_seq (awp_go hmix (go_run' ttok 3 rfl ?_)))))
             obtain ⟨e8, hv86, hz62⟩ := of_obind hz62
             refine go_indexT I sizes vfirst e8 hv86 ttok rfl rfl rfl rfl rfl rfl rfl rfl rfl ?_
             refine go_run' ttok 5 rfl (go_nil nd (then_norm (awp_go hmix (go_run' ttok 3 rfl (go_nil nd (block_norm ?_))))))
             have e87 := of_some hz62
             subst e87
             refine then_norm ⟨rfl, ((W64 (n2 - 1)), l, (W64 ((W64 (room - e8)) - kerf)), vfirst, known6), [(19, some 161), (79, some 79)], ⟨rfl, rfl, rfl, rfl, rfl, ⟨wkP_id _ rfl, ⟨rfl, rfl, (by first | rfl | (simp [setI]; done) | omega | (dsimp only; omega) | (simp [setI]; omega))⟩, wkP_id _ rfl, wkP_id _ rfl, ⟨rfl, rfl, (by first | rfl | (simp [setI]; done) | omega | (dsimp only; omega) | (simp [setI]; omega))⟩, trivial⟩, ⟨⟨_, rfl, rfl, rfl, wkX_map (enc := I) l (fun _ => rfl)⟩, ⟨_, rfl, rfl, rfl, wkX_map (enc := I) known6 (fun _ => rfl)⟩, trivial⟩⟩, hk63⟩
            ·replace hz62 := of_bif_f hz62 c84
             refine awp_go hmix (go_run' ttok 3 rfl (go_nil nd (block_norm ?_)))
             have e88 := of_some hz62
             subst e88
             refine then_norm ⟨rfl, (n2, out1, room, (W64 (vfirst + 1)), known6), [(19, some 19), (79, some 79)], ⟨rfl, rfl, rfl, rfl, rfl, ⟨wkP_id _ rfl, ⟨rfl, rfl, (by first | rfl | (simp [setI]; done) | omega | (dsimp only; omega) | (simp [setI]; omega))⟩, wkP_id _ rfl, wkP_id _ rfl, ⟨rfl, rfl, (by first | rfl | (simp [setI]; done) | omega | (dsimp only; omega) | (simp [setI]; omega))⟩, trivial⟩, ⟨⟨_, rfl, rfl, rfl, wkX_map (enc := I) out1 (fun _ => rfl)⟩, ⟨_, rfl, rfl, rfl, wkX_map (enc := I) known6 (fun _ => rfl)⟩, trivial⟩⟩, hk63⟩
         ·replace hz62 := of_bif_f hz62 c64
          refine awp_exit (then_exit ?_)
          obtain ⟨t11, hn89, hq⟩ := of_mapr' hz62
          subst hq
          have hq : t11 = _ := hk63
          subst hq
          refine then_exit (block_here ?_)
          have e90 := of_some hn89
          refine then_norm ⟨rfl, out1, [(19, some 19)], ⟨rfl, rfl, rfl, rfl, rfl, ⟨⟨rfl, rfl, (by first | rfl | (simp [setI]; done) | omega | (dsimp only; omega) | (simp [setI]; omega))⟩, trivial⟩, ⟨⟨_, rfl, rfl, rfl, wkX_map (enc := I) out1 (fun _ => rfl)⟩, trivial⟩⟩, e90⟩
        ·intro out hw61
         subst hw61
         refine awp_seq (awp_go hmix (go_run' ttok 5 rfl (go_nil nd (then_norm ?_))))
         refine awp_freezeM [9, 10] [] [(19, some ⟨3, 1, out.map I⟩)] [] [(8, (encL I out))] [] rfl rfl rfl rfl rfl ⟨rfl, by decide, trivial⟩ ⟨(wkP_lend rfl (by first | rfl | (simp [setI]; done) | omega | (dsimp only; omega) | (simp [setI]; omega)) (fun _ => rfl)), trivial⟩ trivial ?_
         refine awp_ret ?_
         have e91 := of_some h
         subst e91
         refine ret_ret ?_
         refine fin0 ttok rfl rfl ?_
         exact wkP_refl _ rfl

noncomputable def r27_SameInts_s1 (a : (List Int)) (b : (List Int)) (i : Int) : Option (Int ⊕ (Bool ⊕ Unit)) :=
 (bif (decide (i < ((a.length : Nat) : Int))) then (Option.bind (getI a i) (fun e => (Option.bind (getI b i) (fun e1 => (bif (e != e1) then some (Sum.inr (Sum.inl false)) else some (Sum.inl (W64 (i + 1)))))))) else some (Sum.inr (Sum.inr ())))
/-- sawmill/sawmillref27.SameInts -/
noncomputable def r27_SameInts_g (a : (List Int)) (b : (List Int)) : Option Bool :=
 (bif (((a.length : Nat) : Int) != ((b.length : Nat) : Int)) then some false else (Option.bind ((loopO (fun q => r27_SameInts_s1 a b q) 0) : Option (Bool ⊕ Unit)) (Sum.elim (fun q => some q) (fun _ => some true))))
theorem r27_SameInts_w (a : (List Int)) (b : (List Int)) (r : Bool) (h : r27_SameInts_g a b = some r) : Holds Try.prog 21 [((encL I) a), ((encL I) b)] [] (B r) [] := by
 unfold r27_SameInts_g at h
 refine holds_fn Try.func21 rfl Try.ntmps21 rfl rfl rfl (fun lim => ?_)
 refine awp_seq (awp_go hmix (go_run' ttok 1 rfl (go_nil nd (then_norm (awp_seq (awp_seq (awp_go hmix (go_run' ttok 1 rfl ?_))))))))
 refine go_lenT I a ttok rfl rfl rfl rfl rfl rfl ?_
 refine go_run' ttok 1 rfl ?_
 refine go_lenT I b ttok rfl rfl rfl rfl rfl rfl ?_
 refine go_run' ttok 1 rfl (go_nil nd (then_norm ?_))
 refine awp_cond (b := (((a.length : Nat) : Int) != ((b.length : Nat) : Int))) rfl (fun c1 => ?_) (fun c1 => ?_)
 ·replace h := of_bif_t h c1
  refine awp_seq (awp_go hmix (go_run' ttok 1 rfl (go_nil nd (then_norm (awp_ret (then_ret ?_))))))
  have e2 := of_some h
  subst e2
  refine ret_ret ?_
  refine fin0 ttok rfl rfl ?_
  exact (wkP_refl _ rfl)
 ·replace h := of_bif_f h c1
  refine awp_skip (then_norm ?_)
  obtain ⟨y, hx3, h⟩ := of_obind h
  refine awp_seqJ (X := Unit) [] [] (fun _ => []) (fun _ => []) (fun w => Sum.inr w = y) rfl rfl ?_ ?_
  ·skip
   refine awp_seq (awp_go hmix (go_run' ttok 1 rfl (go_nil nd (then_norm (awp_block ?_)))))
   refine awp_loopD (X := Int) (Y := (Bool ⊕ Unit)) [0, 1] [] (fun q => [(5, (I q))]) (fun q => []) (fun q => r27_SameInts_s1 a b q) 0 [] hx3 ⟨rfl, rfl, rfl, rfl, rfl, ⟨wkP_id _ rfl, trivial⟩, trivial⟩ (fun i vR vz hz5 hk6 => ?_)
   change r27_SameInts_s1 a b i = _ at hz5
   unfold r27_SameInts_s1 at hz5
   refine awp_seq (awp_seq (awp_go hmix (go_run' ttok 2 rfl ?_)))
   refine go_lenT I a ttok rfl rfl rfl rfl rfl rfl ?_
   refine go_run' ttok 1 rfl (go_nil nd (then_norm ?_))
   refine awp_cond (b := (decide (i < ((a.length : Nat) : Int)))) rfl (fun c7 => ?_) (fun c7 => ?_)
   ·replace hz5 := of_bif_t hz5 c7
    refine awp_skip (then_norm (awp_seq (awp_block (awp_seq (awp_go hmix (go_run' ttok 2 rfl ?_))))))
    obtain ⟨e, hv8, hz5⟩ := of_obind hz5
    refine go_indexT I a i e hv8 ttok rfl rfl rfl rfl rfl rfl rfl rfl rfl ?_
    refine go_run' ttok 3 rfl ?_
    obtain ⟨e1, hv9, hz5⟩ := of_obind hz5
    refine go_indexT I b i e1 hv9 ttok rfl rfl rfl rfl rfl rfl rfl rfl rfl ?_
    refine go_run' ttok 2 rfl ?_
    refine go_nil (fun _ => by kernel_rfl) ?_
    refine then_norm ?_
    refine awp_cond (b := (e != e1)) rfl (fun c10 => ?_) (fun c10 => ?_)
    ·replace hz5 := of_bif_t hz5 c10
     refine awp_seq (awp_go hmix (go_run' ttok 1 rfl (go_nil nd (then_norm (awp_ret (block_ret (then_ret ?_)))))))
     obtain ⟨t, hn11, hq⟩ := of_mapr' hz5
     subst hq
     have hq : t = _ := hk6
     subst hq
     refine then_ret (block_ret ?_)
     obtain ⟨t1, hn12, hq⟩ := of_mapl' hn11
     subst hq
     have hq := of_inl h
     replace hq := of_some hq
     subst hq
     refine then_ret ?_
     have e13 := of_some hn12
     subst e13
     refine ret_ret ?_
     refine fin0 ttok rfl rfl ?_
     exact (wkP_refl _ rfl)
    ·replace hz5 := of_bif_f hz5 c10
     refine awp_skip (block_norm (then_norm (awp_go hmix (go_run' ttok 3 rfl (go_nil nd ?_)))))
     have e14 := of_some hz5
     subst e14
     refine then_norm ⟨rfl, (W64 (i + 1)), [], ⟨rfl, rfl, rfl, rfl, rfl, ⟨wkP_id _ rfl, trivial⟩, trivial⟩, hk6⟩
   ·replace hz5 := of_bif_f hz5 c7
    refine awp_exit (then_exit ?_)
    obtain ⟨t2, hn15, hq⟩ := of_mapr' hz5
    subst hq
    have hq : t2 = _ := hk6
    subst hq
    refine then_exit (block_here ?_)
    have e16 := of_some hn15
    refine then_norm ⟨rfl, (), [], ⟨rfl, rfl, rfl, rfl, rfl, trivial, trivial⟩, e16⟩
  ·intro w hw4
   subst hw4
   replace h := of_inr h
   refine awp_seq (awp_go hmix (go_run' ttok 1 rfl (go_nil nd (then_norm (awp_ret ?_)))))
   have e17 := of_some h
   subst e17
   refine ret_ret ?_
   refine fin0 ttok rfl rfl ?_
   exact (wkP_refl _ rfl)

/-- sawmill/sawmilllaw27.ResawMosts -/
noncomputable def l27_ResawMosts_g (x : Tsawmilllaw27_Parts) : Option Bool :=
 (bif (!(l27_light_g x)) then (Option.bind l27_awake_g (fun av => some av)) else (Option.bind (resaw_Most_g x.Thick x.Kerf x.Sizes x.Prices) (fun mv => (Option.bind (r27_Most_g x.Thick x.Kerf x.Sizes x.Prices) (fun mv1 => (Option.bind (r27_SameInts_g mv.1 mv1.1) (fun sv => (bif sv then (bif (mv.2.1 == mv1.2.1) then (bif (mv.2.2 == mv1.2.2) then (Option.bind l27_awake_g (fun av1 => some av1)) else some false) else some false) else some false))))))))
theorem l27_ResawMosts_w (x : Tsawmilllaw27_Parts) (r : Bool) (h : l27_ResawMosts_g x = some r) : Holds Try.prog 4 [(encTsawmilllaw27_Parts x)] [] (B r) [] := by
 unfold l27_ResawMosts_g at h
 refine holds_fn Try.func4 rfl Try.ntmps4 rfl rfl rfl (fun lim => ?_)
 refine awp_seq (awp_go hmix (go_run' ttok 2 rfl (go_nil nd (then_norm (awp_seq (awp_seq (awp_go hmix (go_run' ttok 1 rfl ?_))))))))
 refine go_call fn18 (l27_light_w x _ rfl) rfl rfl rfl rfl rfl rfl rfl ?_
 refine go_run' ttok 1 rfl (go_nil nd (then_norm ?_))
 refine awp_cond (b := (!(l27_light_g x))) rfl (fun c1 => ?_) (fun c1 => ?_)
 ·replace h := of_bif_t h c1
  refine awp_seq (awp_go hmix ?_)
  obtain ⟨av, hv2, h⟩ := of_obind h
  refine go_call fn12 (l27_awake_w av hv2) rfl rfl rfl rfl rfl rfl rfl ?_
  refine go_run' ttok 1 rfl (go_nil nd (then_norm (awp_ret (then_ret ?_))))
  have e3 := of_some h
  subst e3
  refine ret_ret ?_
  refine fin0 ttok rfl rfl ?_
  exact (wkP_refl _ rfl)
 ·replace h := of_bif_f h c1
  refine awp_skip (then_norm (awp_seq (awp_go hmix (go_run' ttok 8 rfl ?_))))
  obtain ⟨mv, hv4, h⟩ := of_obind h
  refine go_call fn19 (resaw_Most_w x.Thick x.Kerf x.Sizes x.Prices mv hv4) rfl rfl rfl rfl rfl rfl rfl ?_
  refine go_run' ttok 7 rfl (go_nil nd (then_norm (awp_seq (awp_go hmix (go_run' ttok 8 rfl ?_)))))
  obtain ⟨mv1, hv5, h⟩ := of_obind h
  refine go_call fn20 (r27_Most_w x.Thick x.Kerf x.Sizes x.Prices mv1 hv5) rfl rfl rfl rfl rfl rfl rfl ?_
  refine go_run' ttok 7 rfl (go_nil nd (then_norm (awp_seq (awp_go hmix (go_run' ttok 2 rfl ?_)))))
  obtain ⟨sv, hv6, h⟩ := of_obind h
  refine go_call fn21 (r27_SameInts_w mv.1 mv1.1 sv hv6) rfl rfl rfl rfl rfl rfl rfl ?_
  refine go_run' ttok 1 rfl ?_
  refine go_gcase rfl rfl rfl (fun g7 => ?_) (fun g7 => ?_)
  ·rw [g7]
   replace h := of_bif_t h g7
   refine go_run' ttok 5 rfl ?_
   refine go_gcase rfl rfl rfl (fun g8 => ?_) (fun g8 => ?_)
   ·rw [g8]
    replace h := of_bif_t h g8
    refine go_run' ttok 5 rfl ?_
    refine go_gcase rfl rfl rfl (fun g9 => ?_) (fun g9 => ?_)
    ·rw [g9]
     replace h := of_bif_t h g9
     obtain ⟨av1, hv10, h⟩ := of_obind h
     refine go_call fn12 (l27_awake_w av1 hv10) rfl rfl rfl rfl rfl rfl rfl ?_
     refine go_run' ttok 2 rfl (go_nil nd (then_norm (awp_ret ?_)))
     have e11 := of_some h
     subst e11
     refine ret_ret ?_
     refine fin0 ttok rfl rfl ?_
     exact (wkP_refl _ rfl)
    ·rw [g9]
     replace h := of_bif_f h g9
     refine go_run' ttok 3 rfl (go_nil nd (then_norm (awp_ret ?_)))
     have e12 := of_some h
     subst e12
     refine ret_ret ?_
     refine fin0 ttok rfl rfl ?_
     exact (wkP_refl _ rfl)
   ·rw [g8]
    replace h := of_bif_f h g8
    refine go_run' ttok 8 rfl (go_nil nd (then_norm (awp_ret ?_)))
    have e13 := of_some h
    subst e13
    refine ret_ret ?_
    refine fin0 ttok rfl rfl ?_
    exact (wkP_refl _ rfl)
  ·rw [g7]
   replace h := of_bif_f h g7
   refine go_run' ttok 13 rfl (go_nil nd (then_norm (awp_ret ?_)))
   have e14 := of_some h
   subst e14
   refine ret_ret ?_
   refine fin0 ttok rfl rfl ?_
   exact (wkP_refl _ rfl)

noncomputable def l27_small_s1 (x : Tsawmilllaw27_Split) (i : Int) : Option (Int ⊕ (Bool ⊕ Unit)) :=
 (bif (decide (i < ((x.Products.length : Nat) : Int))) then (Option.bind (getI x.Products i) (fun e => (bif (decide (100 < ((e.Name.size : Nat) : Int))) then some (Sum.inr (Sum.inl false)) else (Option.bind (getI x.Products i) (fun e1 => (bif (decide (12 < ((e1.Lengths.length : Nat) : Int))) then some (Sum.inr (Sum.inl false)) else (Option.bind (getI x.Products i) (fun e2 => (bif (decide (12 < ((e2.Prices.length : Nat) : Int))) then some (Sum.inr (Sum.inl false)) else some (Sum.inl (W64 (i + 1)))))))))))) else some (Sum.inr (Sum.inr ())))
/-- sawmill/sawmilllaw27.small -/
noncomputable def l27_small_g (x : Tsawmilllaw27_Split) : Option Bool :=
 (bif (decide (70 < ((x.Board.Defects.length : Nat) : Int))) then some false else (bif (decide (100 < ((x.Board.Id.size : Nat) : Int))) then some false else (bif (decide (100 < ((x.Board.Log.size : Nat) : Int))) then some false else (bif (decide (100 < ((x.Board.Species.size : Nat) : Int))) then some false else (bif (decide (20 < ((x.Products.length : Nat) : Int))) then some false else (bif (decide (20 < ((x.Parts.length : Nat) : Int))) then some false else (Option.bind ((loopO (fun q => l27_small_s1 x q) 0) : Option (Bool ⊕ Unit)) (Sum.elim (fun q => some q) (fun _ => some true)))))))))
theorem l27_small_w (x : Tsawmilllaw27_Split) (r : Bool) (h : l27_small_g x = some r) : Holds Try.prog 22 [(encTsawmilllaw27_Split x)] [] (B r) [] := by
 unfold l27_small_g at h
 refine holds_fn Try.func22 rfl Try.ntmps22 rfl rfl rfl (fun lim => ?_)
 refine awp_seq (awp_go hmix (go_run' ttok 2 rfl (go_nil nd (then_norm (awp_seq (awp_seq (awp_go hmix (go_run' ttok 3 rfl ?_))))))))
 refine go_lenT encDf x.Board.Defects ttok rfl rfl rfl rfl rfl rfl ?_
 refine go_run' ttok 2 rfl ?_
 refine go_gcase rfl rfl rfl (fun g1 => ?_) (fun g1 => ?_)
 ·rw [g1]
  replace h := of_bif_t h g1
  refine go_run' ttok 32 rfl (go_nil nd (then_norm ?_))
  refine awp_cond rfl (fun tt0 => ?_) (fun h => by cases h)
  clear tt0
  refine awp_seq (awp_go hmix (go_run' ttok 1 rfl (go_nil nd (then_norm (awp_ret (then_ret ?_))))))
  have e2 := of_some h
  subst e2
  refine ret_ret ?_
  refine fin0 ttok rfl rfl ?_
  exact (wkP_refl _ rfl)
 ·rw [g1]
  replace h := of_bif_f h g1
  refine go_run' ttok 7 rfl ?_
  refine go_gcase rfl rfl rfl (fun g3 => ?_) (fun g3 => ?_)
  ·rw [g3]
   replace h := of_bif_t h g3
   refine go_run' ttok 25 rfl (go_nil nd (then_norm ?_))
   refine awp_cond rfl (fun tt0 => ?_) (fun h => by cases h)
   clear tt0
   refine awp_seq (awp_go hmix (go_run' ttok 1 rfl (go_nil nd (then_norm (awp_ret (then_ret ?_))))))
   have e4 := of_some h
   subst e4
   refine ret_ret ?_
   refine fin0 ttok rfl rfl ?_
   exact (wkP_refl _ rfl)
  ·rw [g3]
   replace h := of_bif_f h g3
   refine go_run' ttok 7 rfl ?_
   refine go_gcase rfl rfl rfl (fun g5 => ?_) (fun g5 => ?_)
   ·rw [g5]
    replace h := of_bif_t h g5
    refine go_run' ttok 18 rfl (go_nil nd (then_norm ?_))
    refine awp_cond rfl (fun tt0 => ?_) (fun h => by cases h)
    clear tt0
    refine awp_seq (awp_go hmix (go_run' ttok 1 rfl (go_nil nd (then_norm (awp_ret (then_ret ?_))))))
    have e6 := of_some h
    subst e6
    refine ret_ret ?_
    refine fin0 ttok rfl rfl ?_
    exact (wkP_refl _ rfl)
   ·rw [g5]
    replace h := of_bif_f h g5
    refine go_run' ttok 7 rfl ?_
    refine go_gcase rfl rfl rfl (fun g7 => ?_) (fun g7 => ?_)
    ·rw [g7]
     replace h := of_bif_t h g7
     refine go_run' ttok 11 rfl (go_nil nd (then_norm ?_))
     refine awp_cond rfl (fun tt0 => ?_) (fun h => by cases h)
     clear tt0
     refine awp_seq (awp_go hmix (go_run' ttok 1 rfl (go_nil nd (then_norm (awp_ret (then_ret ?_))))))
     have e8 := of_some h
     subst e8
     refine ret_ret ?_
     refine fin0 ttok rfl rfl ?_
     exact (wkP_refl _ rfl)
    ·rw [g7]
     replace h := of_bif_f h g7
     refine go_run' ttok 2 rfl ?_
     refine go_lenT encTProduct x.Products ttok rfl rfl rfl rfl rfl rfl ?_
     refine go_run' ttok 3 rfl ?_
     refine go_gcase rfl rfl rfl (fun g9 => ?_) (fun g9 => ?_)
     ·rw [g9]
      replace h := of_bif_t h g9
      refine go_run' ttok 5 rfl (go_nil nd (then_norm ?_))
      refine awp_cond rfl (fun tt0 => ?_) (fun h => by cases h)
      clear tt0
      refine awp_seq (awp_go hmix (go_run' ttok 1 rfl (go_nil nd (then_norm (awp_ret (then_ret ?_))))))
      have e10 := of_some h
      subst e10
      refine ret_ret ?_
      refine fin0 ttok rfl rfl ?_
      exact (wkP_refl _ rfl)
     ·rw [g9]
      replace h := of_bif_f h g9
      refine go_run' ttok 2 rfl ?_
      refine go_lenT I x.Parts ttok rfl rfl rfl rfl rfl rfl ?_
      refine go_run' ttok 2 rfl (go_nil nd (then_norm ?_))
      refine awp_cond (b := (decide (20 < ((x.Parts.length : Nat) : Int)))) rfl (fun c11 => ?_) (fun c11 => ?_)
      ·replace h := of_bif_t h c11
       refine awp_seq (awp_go hmix (go_run' ttok 1 rfl (go_nil nd (then_norm (awp_ret (then_ret ?_))))))
       have e12 := of_some h
       subst e12
       refine ret_ret ?_
       refine fin0 ttok rfl rfl ?_
       exact (wkP_refl _ rfl)
      ·replace h := of_bif_f h c11
       refine awp_skip (then_norm ?_)
       obtain ⟨y, hx13, h⟩ := of_obind h
       refine awp_seqJ (X := Unit) [] [] (fun _ => []) (fun _ => []) (fun w => Sum.inr w = y) rfl rfl ?_ ?_
       ·skip
        refine awp_seq (awp_go hmix (go_run' ttok 1 rfl (go_nil nd (then_norm (awp_block ?_)))))
        refine awp_loopD (X := Int) (Y := (Bool ⊕ Unit)) [1] [1] (fun q => [(3, (I q))]) (fun q => []) (fun q => l27_small_s1 x q) 0 [(1, some 1)] hx13 ⟨rfl, rfl, rfl, rfl, rfl, ⟨wkP_id _ rfl, trivial⟩, trivial⟩ (fun i vR vz hz15 hk16 => ?_)
        change l27_small_s1 x i = _ at hz15
        unfold l27_small_s1 at hz15
        refine awp_seq (awp_seq (awp_go hmix (go_run' ttok 3 rfl ?_)))
        refine go_lenT encTProduct x.Products ttok rfl rfl rfl rfl rfl rfl ?_
        refine go_run' ttok 1 rfl (go_nil nd (then_norm ?_))
        refine awp_cond (b := (decide (i < ((x.Products.length : Nat) : Int)))) rfl (fun c17 => ?_) (fun c17 => ?_)
        ·replace hz15 := of_bif_t hz15 c17
         refine awp_skip (then_norm (awp_seq (awp_block (awp_seq (awp_go hmix (go_run' ttok 3 rfl ?_))))))
         obtain ⟨e, hv18, hz15⟩ := of_obind hz15
         refine go_indexT encTProduct x.Products i e hv18 ttok rfl rfl rfl rfl rfl rfl rfl rfl rfl ?_
         refine go_run' ttok 5 rfl ?_
         refine go_gcase rfl rfl rfl (fun g19 => ?_) (fun g19 => ?_)
         ·rw [g19]
          replace hz15 := of_bif_t hz15 g19
          refine go_run' ttok 19 rfl (go_nil nd (then_norm ?_))
          refine awp_cond rfl (fun tt0 => ?_) (fun h => by cases h)
          clear tt0
          refine awp_seq (awp_go hmix (go_run' ttok 1 rfl (go_nil nd (then_norm (awp_ret (block_ret (then_ret ?_)))))))
          obtain ⟨t, hn20, hq⟩ := of_mapr' hz15
          subst hq
          have hq : t = _ := hk16
          subst hq
          refine then_ret (block_ret ?_)
          obtain ⟨t1, hn21, hq⟩ := of_mapl' hn20
          subst hq
          have hq := of_inl h
          replace hq := of_some hq
          subst hq
          refine then_ret ?_
          have e22 := of_some hn21
          subst e22
          refine ret_ret ?_
          refine fin0 ttok rfl rfl ?_
          exact (wkP_refl _ rfl)
         ·rw [g19]
          replace hz15 := of_bif_f hz15 g19
          refine go_run' ttok 3 rfl ?_
          obtain ⟨e1, hv23, hz15⟩ := of_obind hz15
          refine go_indexT encTProduct x.Products i e1 hv23 ttok rfl rfl rfl rfl rfl rfl rfl rfl rfl ?_
          refine go_run' ttok 2 rfl ?_
          refine go_lenT I e1.Lengths ttok rfl rfl rfl rfl rfl rfl ?_
          refine go_run' ttok 3 rfl ?_
          refine go_gcase rfl rfl rfl (fun g24 => ?_) (fun g24 => ?_)
          ·rw [g24]
           replace hz15 := of_bif_t hz15 g24
           refine go_run' ttok 9 rfl (go_nil nd (then_norm ?_))
           refine awp_cond rfl (fun tt0 => ?_) (fun h => by cases h)
           clear tt0
           refine awp_seq (awp_go hmix (go_run' ttok 1 rfl (go_nil nd (then_norm (awp_ret (block_ret (then_ret ?_)))))))
           obtain ⟨t2, hn25, hq⟩ := of_mapr' hz15
           subst hq
           have hq : t2 = _ := hk16
           subst hq
           refine then_ret (block_ret ?_)
           obtain ⟨t3, hn26, hq⟩ := of_mapl' hn25
           subst hq
           have hq := of_inl h
           replace hq := of_some hq
           subst hq
           refine then_ret ?_
           have e27 := of_some hn26
           subst e27
           refine ret_ret ?_
           refine fin0 ttok rfl rfl ?_
           exact (wkP_refl _ rfl)
          ·rw [g24]
           replace hz15 := of_bif_f hz15 g24
           refine go_run' ttok 3 rfl ?_
           obtain ⟨e2, hv28, hz15⟩ := of_obind hz15
           refine go_indexT encTProduct x.Products i e2 hv28 ttok rfl rfl rfl rfl rfl rfl rfl rfl rfl ?_
           refine go_run' ttok 2 rfl ?_
           refine go_lenT I e2.Prices ttok rfl rfl rfl rfl rfl rfl ?_
           refine go_run' ttok 2 rfl (go_nil nd (then_norm ?_))
           refine awp_cond (b := (decide (12 < ((e2.Prices.length : Nat) : Int)))) rfl (fun c29 => ?_) (fun c29 => ?_)
           ·replace hz15 := of_bif_t hz15 c29
            refine awp_seq (awp_go hmix (go_run' ttok 1 rfl (go_nil nd (then_norm (awp_ret (block_ret (then_ret ?_)))))))
            obtain ⟨t4, hn30, hq⟩ := of_mapr' hz15
            subst hq
            have hq : t4 = _ := hk16
            subst hq
            refine then_ret (block_ret ?_)
            obtain ⟨t5, hn31, hq⟩ := of_mapl' hn30
            subst hq
            have hq := of_inl h
            replace hq := of_some hq
            subst hq
            refine then_ret ?_
            have e32 := of_some hn31
            subst e32
            refine ret_ret ?_
            refine fin0 ttok rfl rfl ?_
            exact (wkP_refl _ rfl)
           ·replace hz15 := of_bif_f hz15 c29
            refine awp_skip (block_norm (then_norm (awp_go hmix (go_run' ttok 3 rfl (go_nil nd ?_)))))
            have e33 := of_some hz15
            subst e33
            refine then_norm ⟨rfl, (W64 (i + 1)), [(1, some 1)], ⟨rfl, rfl, rfl, rfl, rfl, ⟨wkP_id _ rfl, trivial⟩, trivial⟩, hk16⟩
        ·replace hz15 := of_bif_f hz15 c17
         refine awp_exit (then_exit ?_)
         obtain ⟨t6, hn34, hq⟩ := of_mapr' hz15
         subst hq
         have hq : t6 = _ := hk16
         subst hq
         refine then_exit (block_here ?_)
         have e35 := of_some hn34
         refine then_norm ⟨rfl, (), [], ⟨rfl, rfl, rfl, rfl, rfl, trivial, trivial⟩, e35⟩
       ·intro w hw14
        subst hw14
        replace h := of_inr h
        refine awp_seq (awp_go hmix (go_run' ttok 1 rfl (go_nil nd (then_norm (awp_ret ?_)))))
        have e36 := of_some h
        subst e36
        refine ret_ret ?_
        refine fin0 ttok rfl rfl ?_
        exact (wkP_refl _ rfl)

/-- sawmill/sawmillref02.digit -/
noncomputable def r02_digit_g (c : Int) : Bool :=
 (bif (decide (48 ≤ c)) then (decide (c ≤ 57)) else false)
theorem r02_digit_w (c : Int) (r : Bool) (h : r02_digit_g c = r) : Holds Try.prog 92 [(U8 c)] [] (B r) [] := by
 unfold r02_digit_g at h
 refine holds_fn Try.func92 rfl Try.ntmps92 rfl rfl rfl (fun lim => ?_)
 refine awp_seq (awp_go hmix (go_run' ttok 1 rfl (go_nil nd (then_norm (awp_seq (awp_go hmix (go_run' ttok 3 rfl ?_)))))))
 refine go_gcase rfl rfl rfl (fun g1 => ?_) (fun g1 => ?_)
 ·rw [g1]
  replace h := of_bif_t h g1
  refine go_run' ttok 4 rfl (go_nil nd (then_norm (awp_ret ?_)))
  have e2 := h
  subst e2
  refine ret_ret ?_
  refine fin0 ttok rfl rfl ?_
  exact (wkP_refl _ rfl)
 ·rw [g1]
  replace h := of_bif_f h g1
  refine go_run' ttok 4 rfl (go_nil nd (then_norm (awp_ret ?_)))
  have e3 := h
  subst e3
  refine ret_ret ?_
  refine fin0 ttok rfl rfl ?_
  exact (wkP_refl _ rfl)

noncomputable def r02_IsName_s1 (s : ByteArray) (i : Int) : Option (Int ⊕ (Bool ⊕ Unit)) :=
 (bif (decide (i < ((s.size : Nat) : Int))) then (Option.bind ((Option.bind (bytO s i) (fun c => (bif (decide (97 ≤ c)) then (Option.bind (bytO s i) (fun c1 => some (decide (c1 ≤ 122)))) else some false))) : Option Bool) (fun letter => (bif (!letter) then (bif (i == 0) then some (Sum.inr (Sum.inl false)) else (Option.bind (bytO s i) (fun c2 => (bif (c2 != 95) then (Option.bind (bytO s i) (fun c3 => (bif (!(r02_digit_g c3)) then some (Sum.inr (Sum.inl false)) else some (Sum.inl (W64 (i + 1)))))) else some (Sum.inl (W64 (i + 1))))))) else some (Sum.inl (W64 (i + 1)))))) else some (Sum.inr (Sum.inr ())))
/-- sawmill/sawmillref02.IsName -/
noncomputable def r02_IsName_g (s : ByteArray) : Option Bool :=
 (bif (decide (((s.size : Nat) : Int) < 1)) then some false else (bif (decide (16 < ((s.size : Nat) : Int))) then some false else (Option.bind ((loopO (fun q => r02_IsName_s1 s q) 0) : Option (Bool ⊕ Unit)) (Sum.elim (fun q => some q) (fun _ => some true)))))
theorem r02_IsName_w (s : ByteArray) (r : Bool) (h : r02_IsName_g s = some r) : Holds Try.prog 77 [(S s)] [] (B r) [] := by
 unfold r02_IsName_g at h
 refine holds_fn Try.func77 rfl Try.ntmps77 rfl rfl rfl (fun lim => ?_)
 refine awp_seq (awp_go hmix (go_run' ttok 1 rfl (go_nil nd (then_norm (awp_seq (awp_seq (awp_go hmix (go_run' ttok 4 rfl ?_))))))))
 refine go_gcase rfl rfl rfl (fun g1 => ?_) (fun g1 => ?_)
 ·rw [g1]
  replace h := of_bif_t h g1
  refine go_run' ttok 4 rfl (go_nil nd (then_norm ?_))
  refine awp_cond rfl (fun tt0 => ?_) (fun h => by cases h)
  clear tt0
  refine awp_seq (awp_go hmix (go_run' ttok 1 rfl (go_nil nd (then_norm (awp_ret (then_ret ?_))))))
  have e2 := of_some h
  subst e2
  refine ret_ret ?_
  refine fin0 ttok rfl rfl ?_
  exact (wkP_refl _ rfl)
 ·rw [g1]
  replace h := of_bif_f h g1
  refine go_run' ttok 4 rfl (go_nil nd (then_norm ?_))
  refine awp_cond (b := (decide (16 < ((s.size : Nat) : Int)))) rfl (fun c3 => ?_) (fun c3 => ?_)
  ·replace h := of_bif_t h c3
   refine awp_seq (awp_go hmix (go_run' ttok 1 rfl (go_nil nd (then_norm (awp_ret (then_ret ?_))))))
   have e4 := of_some h
   subst e4
   refine ret_ret ?_
   refine fin0 ttok rfl rfl ?_
   exact (wkP_refl _ rfl)
  ·replace h := of_bif_f h c3
   refine awp_skip (then_norm ?_)
   obtain ⟨y, hx5, h⟩ := of_obind h
   refine awp_seqJ (X := Unit) [] [] (fun _ => []) (fun _ => []) (fun w => Sum.inr w = y) rfl rfl ?_ ?_
   ·skip
    refine awp_seq (awp_go hmix (go_run' ttok 1 rfl (go_nil nd (then_norm (awp_block ?_)))))
    refine awp_loopD (X := Int) (Y := (Bool ⊕ Unit)) [0] [] (fun q => [(3, (I q))]) (fun q => []) (fun q => r02_IsName_s1 s q) 0 [] hx5 ⟨rfl, rfl, rfl, rfl, rfl, ⟨wkP_id _ rfl, trivial⟩, trivial⟩ (fun i vR vz hz7 hk8 => ?_)
    change r02_IsName_s1 s i = _ at hz7
    unfold r02_IsName_s1 at hz7
    refine awp_seq (awp_seq (awp_go hmix (go_run' ttok 4 rfl (go_nil nd (then_norm ?_)))))
    refine awp_cond (b := (decide (i < ((s.size : Nat) : Int)))) rfl (fun c9 => ?_) (fun c9 => ?_)
    ·replace hz7 := of_bif_t hz7 c9
     refine awp_skip (then_norm (awp_seq (awp_block ?_)))
     obtain ⟨y1, hx10, hz7⟩ := of_obind hz7
     refine awp_seqJ (X := Bool) [0, 3] [] (fun w1 => [(4, (B w1))]) (fun w1 => []) (fun w1 => w1 = y1) rfl rfl ?_ ?_
     ·skip
      refine awp_go hmix (go_run' ttok 2 rfl ?_)
      obtain ⟨c, hv12, hx10⟩ := of_obind hx10
      refine go_indexB s i c hv12 ttok rfl rfl rfl rfl rfl rfl rfl ?_
      refine go_run' ttok 2 rfl ?_
      refine go_gcase rfl rfl rfl (fun g13 => ?_) (fun g13 => ?_)
      ·rw [g13]
       replace hx10 := of_bif_t hx10 g13
       refine go_run' ttok 2 rfl ?_
       obtain ⟨c1, hv14, hx10⟩ := of_obind hx10
       refine go_indexB s i c1 hv14 ttok rfl rfl rfl rfl rfl rfl rfl ?_
       refine go_run' ttok 3 rfl (go_nil nd ?_)
       have e15 := of_some hx10
       refine then_norm ⟨rfl, (decide (c1 ≤ 122)), [], ⟨rfl, rfl, rfl, rfl, rfl, ⟨wkP_id _ rfl, trivial⟩, trivial⟩, e15⟩
      ·rw [g13]
       replace hx10 := of_bif_f hx10 g13
       refine go_run' ttok 6 rfl (go_nil nd ?_)
       have e16 := of_some hx10
       refine then_norm ⟨rfl, false, [], ⟨rfl, rfl, rfl, rfl, rfl, ⟨wkP_id _ rfl, trivial⟩, trivial⟩, e16⟩
     ·intro letter hw11
      subst hw11
      refine awp_seq (awp_go hmix (go_run' ttok 3 rfl ?_))
      refine go_gcase rfl rfl rfl (fun g17 => ?_) (fun g17 => ?_)
      ·rw [g17]
       replace hz7 := of_bif_t hz7 g17
       refine go_run' ttok 3 rfl ?_
       refine go_gcase rfl rfl rfl (fun g18 => ?_) (fun g18 => ?_)
       ·rw [g18]
        replace hz7 := of_bif_t hz7 g18
        refine go_run' ttok 13 rfl (go_nil nd (then_norm ?_))
        refine awp_cond rfl (fun tt0 => ?_) (fun h => by cases h)
        clear tt0
        refine awp_seq (awp_go hmix (go_run' ttok 1 rfl (go_nil nd (then_norm (awp_ret (block_ret (then_ret ?_)))))))
        obtain ⟨t, hn19, hq⟩ := of_mapr' hz7
        subst hq
        have hq : t = _ := hk8
        subst hq
        refine then_ret (block_ret ?_)
        obtain ⟨t1, hn20, hq⟩ := of_mapl' hn19
        subst hq
        have hq := of_inl h
        replace hq := of_some hq
        subst hq
        refine then_ret ?_
        have e21 := of_some hn20
        subst e21
        refine ret_ret ?_
        refine fin0 ttok rfl rfl ?_
        exact (wkP_refl _ rfl)
       ·rw [g18]
        replace hz7 := of_bif_f hz7 g18
        refine go_run' ttok 2 rfl ?_
        obtain ⟨c2, hv22, hz7⟩ := of_obind hz7
        refine go_indexB s i c2 hv22 ttok rfl rfl rfl rfl rfl rfl rfl ?_
        refine go_run' ttok 2 rfl ?_
        refine go_gcase rfl rfl rfl (fun g23 => ?_) (fun g23 => ?_)
        ·rw [g23]
         replace hz7 := of_bif_t hz7 g23
         refine go_run' ttok 2 rfl ?_
         obtain ⟨c3, hv24, hz7⟩ := of_obind hz7
         refine go_indexB s i c3 hv24 ttok rfl rfl rfl rfl rfl rfl rfl ?_
         refine go_call fn92 (r02_digit_w c3 _ rfl) rfl rfl rfl rfl rfl rfl rfl ?_
         refine go_run' ttok 4 rfl (go_nil nd (then_norm ?_))
         refine awp_cond (b := (!(r02_digit_g c3))) rfl (fun c25 => ?_) (fun c25 => ?_)
         ·replace hz7 := of_bif_t hz7 c25
          refine awp_seq (awp_go hmix (go_run' ttok 1 rfl (go_nil nd (then_norm (awp_ret (block_ret (then_ret ?_)))))))
          obtain ⟨t2, hn26, hq⟩ := of_mapr' hz7
          subst hq
          have hq : t2 = _ := hk8
          subst hq
          refine then_ret (block_ret ?_)
          obtain ⟨t3, hn27, hq⟩ := of_mapl' hn26
          subst hq
          have hq := of_inl h
          replace hq := of_some hq
          subst hq
          refine then_ret ?_
          have e28 := of_some hn27
          subst e28
          refine ret_ret ?_
          refine fin0 ttok rfl rfl ?_
          exact (wkP_refl _ rfl)
         ·replace hz7 := of_bif_f hz7 c25
          refine awp_skip (block_norm (then_norm (awp_go hmix (go_run' ttok 3 rfl (go_nil nd ?_)))))
          have e29 := of_some hz7
          subst e29
          refine then_norm ⟨rfl, (W64 (i + 1)), [], ⟨rfl, rfl, rfl, rfl, rfl, ⟨wkP_id _ rfl, trivial⟩, trivial⟩, hk8⟩
        ·rw [g23]
         replace hz7 := of_bif_f hz7 g23
         refine go_run' ttok 8 rfl (go_nil nd (then_norm ?_))
         refine awp_cond rfl (fun h => by cases h) (fun tt0 => ?_)
         clear tt0
         refine awp_skip (block_norm (then_norm (awp_go hmix (go_run' ttok 3 rfl (go_nil nd ?_)))))
         have e30 := of_some hz7
         subst e30
         refine then_norm ⟨rfl, (W64 (i + 1)), [], ⟨rfl, rfl, rfl, rfl, rfl, ⟨wkP_id _ rfl, trivial⟩, trivial⟩, hk8⟩
      ·rw [g17]
       replace hz7 := of_bif_f hz7 g17
       refine go_run' ttok 16 rfl (go_nil nd (then_norm ?_))
       refine awp_cond rfl (fun h => by cases h) (fun tt0 => ?_)
       clear tt0
       refine awp_skip (block_norm (then_norm (awp_go hmix (go_run' ttok 3 rfl (go_nil nd ?_)))))
       have e31 := of_some hz7
       subst e31
       refine then_norm ⟨rfl, (W64 (i + 1)), [], ⟨rfl, rfl, rfl, rfl, rfl, ⟨wkP_id _ rfl, trivial⟩, trivial⟩, hk8⟩
    ·replace hz7 := of_bif_f hz7 c9
     refine awp_exit (then_exit ?_)
     obtain ⟨t4, hn32, hq⟩ := of_mapr' hz7
     subst hq
     have hq : t4 = _ := hk8
     subst hq
     refine then_exit (block_here ?_)
     have e33 := of_some hn32
     refine then_norm ⟨rfl, (), [], ⟨rfl, rfl, rfl, rfl, rfl, trivial, trivial⟩, e33⟩
   ·intro w hw6
    subst hw6
    replace h := of_inr h
    refine awp_seq (awp_go hmix (go_run' ttok 1 rfl (go_nil nd (then_norm (awp_ret ?_)))))
    have e34 := of_some h
    subst e34
    refine ret_ret ?_
    refine fin0 ttok rfl rfl ?_
    exact (wkP_refl _ rfl)

/-- sawmill/sawmillref19.sized -/
noncomputable def r19_sized_g (p : TProduct) : Bool :=
 (bif (decide (1 ≤ p.Thick)) then (bif (decide (p.Thick ≤ 600)) then (bif (decide (1 ≤ p.Width)) then (decide (p.Width ≤ 600)) else false) else false) else false)
theorem r19_sized_w (p : TProduct) (r : Bool) (h : r19_sized_g p = r) : Holds Try.prog 81 [(encTProduct p)] [] (B r) [] := by
 unfold r19_sized_g at h
 refine holds_fn Try.func81 rfl Try.ntmps81 rfl rfl rfl (fun lim => ?_)
 refine awp_seq (awp_go hmix (go_run' ttok 2 rfl (go_nil nd (then_norm (awp_seq (awp_go hmix (go_run' ttok 4 rfl ?_)))))))
 refine go_gcase rfl rfl rfl (fun g1 => ?_) (fun g1 => ?_)
 ·rw [g1]
  replace h := of_bif_t h g1
  refine go_run' ttok 5 rfl ?_
  refine go_gcase rfl rfl rfl (fun g2 => ?_) (fun g2 => ?_)
  ·rw [g2]
   replace h := of_bif_t h g2
   refine go_run' ttok 5 rfl ?_
   refine go_gcase rfl rfl rfl (fun g3 => ?_) (fun g3 => ?_)
   ·rw [g3]
    replace h := of_bif_t h g3
    refine go_run' ttok 5 rfl (go_nil nd (then_norm (awp_ret ?_)))
    have e4 := h
    subst e4
    refine ret_ret ?_
    refine fin0 ttok rfl rfl ?_
    exact (wkP_refl _ rfl)
   ·rw [g3]
    replace h := of_bif_f h g3
    refine go_run' ttok 5 rfl (go_nil nd (then_norm (awp_ret ?_)))
    have e5 := h
    subst e5
    refine ret_ret ?_
    refine fin0 ttok rfl rfl ?_
    exact (wkP_refl _ rfl)
  ·rw [g2]
   replace h := of_bif_f h g2
   refine go_run' ttok 10 rfl (go_nil nd (then_norm (awp_ret ?_)))
   have e6 := h
   subst e6
   refine ret_ret ?_
   refine fin0 ttok rfl rfl ?_
   exact (wkP_refl _ rfl)
 ·rw [g1]
  replace h := of_bif_f h g1
  refine go_run' ttok 15 rfl (go_nil nd (then_norm (awp_ret ?_)))
  have e7 := h
  subst e7
  refine ret_ret ?_
  refine fin0 ttok rfl rfl ?_
  exact (wkP_refl _ rfl)

/-- sawmill/sawmillref19.Green -/
noncomputable def r19_Green_g (p : TProduct) : (Int × Int) :=
 (bif (!(r19_sized_g p)) then (0, 0) else (bif (decide (p.Allow < 0)) then (0, 0) else (bif (decide (200 < p.Allow)) then (0, 0) else ((W64 (Int.tdiv (W64 ((W64 (p.Thick * (W64 (1000 + p.Allow)))) + 999)) 1000)), (W64 (Int.tdiv (W64 ((W64 (p.Width * (W64 (1000 + p.Allow)))) + 999)) 1000))))))
theorem r19_Green_w (p : TProduct) (r : (Int × Int)) (h : r19_Green_g p = r) : Holds Try.prog 57 [(encTProduct p)] [] (.tup [(I r.1), (I r.2)]) [] := by
 unfold r19_Green_g at h
 refine holds_fn Try.func57 rfl Try.ntmps57 rfl rfl rfl (fun lim => ?_)
 refine awp_seq (awp_go hmix (go_run' ttok 3 rfl (go_nil nd (then_norm (awp_seq (awp_seq (awp_go hmix (go_run' ttok 1 rfl ?_))))))))
 refine go_call fn81 (r19_sized_w p _ rfl) rfl rfl rfl rfl rfl rfl rfl ?_
 refine go_run' ttok 2 rfl ?_
 refine go_gcase rfl rfl rfl (fun g1 => ?_) (fun g1 => ?_)
 ·rw [g1]
  replace h := of_bif_t h g1
  refine go_run' ttok 9 rfl (go_nil nd (then_norm ?_))
  refine awp_cond rfl (fun tt0 => ?_) (fun h => by cases h)
  clear tt0
  refine awp_seq (awp_go hmix (go_run' ttok 2 rfl (go_nil nd (then_norm (awp_ret (then_ret ?_))))))
  have e2 := h
  subst e2
  refine ret_ret ?_
  refine fin0 ttok rfl rfl ?_
  exact wkP_refl _ rfl
 ·rw [g1]
  replace h := of_bif_f h g1
  refine go_run' ttok 5 rfl ?_
  refine go_gcase rfl rfl rfl (fun g3 => ?_) (fun g3 => ?_)
  ·rw [g3]
   replace h := of_bif_t h g3
   refine go_run' ttok 4 rfl (go_nil nd (then_norm ?_))
   refine awp_cond rfl (fun tt0 => ?_) (fun h => by cases h)
   clear tt0
   refine awp_seq (awp_go hmix (go_run' ttok 2 rfl (go_nil nd (then_norm (awp_ret (then_ret ?_))))))
   have e4 := h
   subst e4
   refine ret_ret ?_
   refine fin0 ttok rfl rfl ?_
   exact wkP_refl _ rfl
  ·rw [g3]
   replace h := of_bif_f h g3
   refine go_run' ttok 4 rfl (go_nil nd (then_norm ?_))
   refine awp_cond (b := (decide (200 < p.Allow))) rfl (fun c5 => ?_) (fun c5 => ?_)
   ·replace h := of_bif_t h c5
    refine awp_seq (awp_go hmix (go_run' ttok 2 rfl (go_nil nd (then_norm (awp_ret (then_ret ?_))))))
    have e6 := h
    subst e6
    refine ret_ret ?_
    refine fin0 ttok rfl rfl ?_
    exact wkP_refl _ rfl
   ·replace h := of_bif_f h c5
    refine awp_skip (then_norm (awp_seq (awp_go hmix (go_run' ttok 18 rfl ?_))))
    refine go_nil (fun _ => by kernel_rfl) ?_
    refine then_norm (awp_ret ?_)
    have e7 := h
    subst e7
    refine ret_ret ?_
    refine fin0 ttok rfl rfl ?_
    exact wkP_refl _ rfl

noncomputable def r19_checkLengths_s1 (p : TProduct) (i : Int) : Option (Int ⊕ (Int ⊕ Unit)) :=
 (bif (decide (i < ((p.Lengths.length : Nat) : Int))) then (Option.bind (getI p.Lengths i) (fun e => (bif (decide (e < 100)) then some (Sum.inr (Sum.inl 9)) else (Option.bind (getI p.Lengths i) (fun e1 => (bif (decide (20000 < e1)) then some (Sum.inr (Sum.inl 9)) else (bif (decide (0 < i)) then (Option.bind (getI p.Lengths i) (fun e2 => (Option.bind (getI p.Lengths (W64 (i - 1))) (fun e3 => (bif (decide (e2 ≤ e3)) then some (Sum.inr (Sum.inl 11)) else some (Sum.inl (W64 (i + 1)))))))) else some (Sum.inl (W64 (i + 1)))))))))) else some (Sum.inr (Sum.inr ())))
noncomputable def r19_checkLengths_s2 (p : TProduct) (i1 : Int) : Option (Int ⊕ (Int ⊕ Unit)) :=
 (bif (decide (i1 < ((p.Prices.length : Nat) : Int))) then (Option.bind (getI p.Prices i1) (fun e4 => (bif (decide (e4 < 0)) then some (Sum.inr (Sum.inl 9)) else (Option.bind (getI p.Prices i1) (fun e5 => (bif (decide (1000000 < e5)) then some (Sum.inr (Sum.inl 9)) else some (Sum.inl (W64 (i1 + 1))))))))) else some (Sum.inr (Sum.inr ())))
/-- sawmill/sawmillref19.checkLengths -/
noncomputable def r19_checkLengths_g (p : TProduct) : Option Int :=
 (bif (((p.Lengths.length : Nat) : Int) == 0) then some 3 else (bif (decide (8 < ((p.Lengths.length : Nat) : Int))) then some 4 else (bif (((p.Prices.length : Nat) : Int) != ((p.Lengths.length : Nat) : Int)) then some 19 else (Option.bind ((loopO (fun q => r19_checkLengths_s1 p q) 0) : Option (Int ⊕ Unit)) (Sum.elim (fun q => some q) (fun _ => (Option.bind ((loopO (fun q => r19_checkLengths_s2 p q) 0) : Option (Int ⊕ Unit)) (Sum.elim (fun q => some q) (fun _ => some 0)))))))))
theorem r19_checkLengths_w (p : TProduct) (r : Int) (h : r19_checkLengths_g p = some r) : Holds Try.prog 78 [(encTProduct p)] [] (I r) [] := by
 unfold r19_checkLengths_g at h
 refine holds_fn Try.func78 rfl Try.ntmps78 rfl rfl rfl (fun lim => ?_)
 refine awp_seq (awp_go hmix (go_run' ttok 2 rfl (go_nil nd (then_norm (awp_seq (awp_seq (awp_go hmix (go_run' ttok 2 rfl ?_))))))))
 refine go_lenT I p.Lengths ttok rfl rfl rfl rfl rfl rfl ?_
 refine go_run' ttok 1 rfl (go_nil nd (then_norm ?_))
 refine awp_cond (b := (((p.Lengths.length : Nat) : Int) == 0)) rfl (fun c1 => ?_) (fun c1 => ?_)
 ·replace h := of_bif_t h c1
  refine awp_seq (awp_go hmix (go_run' ttok 1 rfl (go_nil nd (then_norm (awp_ret (then_ret ?_))))))
  have e2 := of_some h
  subst e2
  refine ret_ret ?_
  refine fin0 ttok rfl rfl ?_
  exact (wkP_refl _ rfl)
 ·replace h := of_bif_f h c1
  refine awp_skip (then_norm (awp_seq (awp_seq (awp_go hmix (go_run' ttok 2 rfl ?_)))))
  refine go_lenT I p.Lengths ttok rfl rfl rfl rfl rfl rfl ?_
  refine go_run' ttok 1 rfl (go_nil nd (then_norm ?_))
  refine awp_cond (b := (decide (8 < ((p.Lengths.length : Nat) : Int)))) rfl (fun c3 => ?_) (fun c3 => ?_)
  ·replace h := of_bif_t h c3
   refine awp_seq (awp_go hmix (go_run' ttok 1 rfl (go_nil nd (then_norm (awp_ret (then_ret ?_))))))
   have e4 := of_some h
   subst e4
   refine ret_ret ?_
   refine fin0 ttok rfl rfl ?_
   exact (wkP_refl _ rfl)
  ·replace h := of_bif_f h c3
   refine awp_skip (then_norm (awp_seq (awp_seq (awp_go hmix (go_run' ttok 2 rfl ?_)))))
   refine go_lenT I p.Prices ttok rfl rfl rfl rfl rfl rfl ?_
   refine go_run' ttok 2 rfl ?_
   refine go_lenT I p.Lengths ttok rfl rfl rfl rfl rfl rfl ?_
   refine go_run' ttok 1 rfl (go_nil nd (then_norm ?_))
   refine awp_cond (b := (((p.Prices.length : Nat) : Int) != ((p.Lengths.length : Nat) : Int))) rfl (fun c5 => ?_) (fun c5 => ?_)
   ·replace h := of_bif_t h c5
    refine awp_seq (awp_go hmix (go_run' ttok 1 rfl (go_nil nd (then_norm (awp_ret (then_ret ?_))))))
    have e6 := of_some h
    subst e6
    refine ret_ret ?_
    refine fin0 ttok rfl rfl ?_
    exact (wkP_refl _ rfl)
   ·replace h := of_bif_f h c5
    refine awp_skip (then_norm ?_)
    obtain ⟨y, hx7, h⟩ := of_obind h
    refine awp_seqJ (X := Unit) [1] [1] (fun _ => []) (fun _ => []) (fun w => Sum.inr w = y) rfl rfl ?_ ?_
    ·skip
     refine awp_seq (awp_go hmix (go_run' ttok 1 rfl (go_nil nd (then_norm (awp_block ?_)))))
     refine awp_loopD (X := Int) (Y := (Int ⊕ Unit)) [1] [1] (fun q => [(3, (I q))]) (fun q => []) (fun q => r19_checkLengths_s1 p q) 0 [(1, some 1)] hx7 ⟨rfl, rfl, rfl, rfl, rfl, ⟨wkP_id _ rfl, trivial⟩, trivial⟩ (fun i vR vz hz9 hk10 => ?_)
     change r19_checkLengths_s1 p i = _ at hz9
     unfold r19_checkLengths_s1 at hz9
     refine awp_seq (awp_seq (awp_go hmix (go_run' ttok 3 rfl ?_)))
     refine go_lenT I p.Lengths ttok rfl rfl rfl rfl rfl rfl ?_
     refine go_run' ttok 1 rfl (go_nil nd (then_norm ?_))
     refine awp_cond (b := (decide (i < ((p.Lengths.length : Nat) : Int)))) rfl (fun c11 => ?_) (fun c11 => ?_)
     ·replace hz9 := of_bif_t hz9 c11
      refine awp_skip (then_norm (awp_seq (awp_block (awp_seq (awp_seq (awp_go hmix (go_run' ttok 3 rfl ?_)))))))
      obtain ⟨e, hv12, hz9⟩ := of_obind hz9
      refine go_indexT I p.Lengths i e hv12 ttok rfl rfl rfl rfl rfl rfl rfl rfl rfl ?_
      refine go_run' ttok 3 rfl ?_
      refine go_gcase rfl rfl rfl (fun g13 => ?_) (fun g13 => ?_)
      ·rw [g13]
       replace hz9 := of_bif_t hz9 g13
       refine go_run' ttok 7 rfl (go_nil nd (then_norm ?_))
       refine awp_cond rfl (fun tt0 => ?_) (fun h => by cases h)
       clear tt0
       refine awp_seq (awp_go hmix (go_run' ttok 1 rfl (go_nil nd (then_norm (awp_ret (then_ret (block_ret (then_ret ?_))))))))
       obtain ⟨t, hn14, hq⟩ := of_mapr' hz9
       subst hq
       have hq : t = _ := hk10
       subst hq
       refine then_ret (block_ret ?_)
       obtain ⟨t1, hn15, hq⟩ := of_mapl' hn14
       subst hq
       have hq := of_inl h
       replace hq := of_some hq
       subst hq
       refine then_ret ?_
       have e16 := of_some hn15
       subst e16
       refine ret_ret ?_
       refine fin0 ttok rfl rfl ?_
       exact (wkP_refl _ rfl)
      ·rw [g13]
       replace hz9 := of_bif_f hz9 g13
       refine go_run' ttok 3 rfl ?_
       obtain ⟨e1, hv17, hz9⟩ := of_obind hz9
       refine go_indexT I p.Lengths i e1 hv17 ttok rfl rfl rfl rfl rfl rfl rfl rfl rfl ?_
       refine go_run' ttok 3 rfl (go_nil nd (then_norm ?_))
       refine awp_cond (b := (decide (20000 < e1))) rfl (fun c18 => ?_) (fun c18 => ?_)
       ·replace hz9 := of_bif_t hz9 c18
        refine awp_seq (awp_go hmix (go_run' ttok 1 rfl (go_nil nd (then_norm (awp_ret (then_ret (block_ret (then_ret ?_))))))))
        obtain ⟨t2, hn19, hq⟩ := of_mapr' hz9
        subst hq
        have hq : t2 = _ := hk10
        subst hq
        refine then_ret (block_ret ?_)
        obtain ⟨t3, hn20, hq⟩ := of_mapl' hn19
        subst hq
        have hq := of_inl h
        replace hq := of_some hq
        subst hq
        refine then_ret ?_
        have e21 := of_some hn20
        subst e21
        refine ret_ret ?_
        refine fin0 ttok rfl rfl ?_
        exact (wkP_refl _ rfl)
       ·replace hz9 := of_bif_f hz9 c18
        refine awp_skip (then_norm (awp_seq (awp_go hmix (go_run' ttok 3 rfl ?_))))
        refine go_gcase rfl rfl rfl (fun g22 => ?_) (fun g22 => ?_)
        ·rw [g22]
         replace hz9 := of_bif_t hz9 g22
         refine go_run' ttok 3 rfl ?_
         obtain ⟨e2, hv23, hz9⟩ := of_obind hz9
         refine go_indexT I p.Lengths i e2 hv23 ttok rfl rfl rfl rfl rfl rfl rfl rfl rfl ?_
         refine go_run' ttok 5 rfl ?_
         obtain ⟨e3, hv24, hz9⟩ := of_obind hz9
         refine go_indexT I p.Lengths (W64 (i - 1)) e3 hv24 ttok rfl rfl rfl rfl rfl rfl rfl rfl rfl ?_
         refine go_run' ttok 3 rfl ?_
         refine go_nil (fun _ => by kernel_rfl) ?_
         refine then_norm ?_
         refine awp_cond (b := (decide (e2 ≤ e3))) rfl (fun c25 => ?_) (fun c25 => ?_)
         ·replace hz9 := of_bif_t hz9 c25
          refine awp_seq (awp_go hmix (go_run' ttok 1 rfl (go_nil nd (then_norm (awp_ret (block_ret (then_ret ?_)))))))
          obtain ⟨t4, hn26, hq⟩ := of_mapr' hz9
          subst hq
          have hq : t4 = _ := hk10
          subst hq
          refine then_ret (block_ret ?_)
          obtain ⟨t5, hn27, hq⟩ := of_mapl' hn26
          subst hq
          have hq := of_inl h
          replace hq := of_some hq
          subst hq
          refine then_ret ?_
          have e28 := of_some hn27
          subst e28
          refine ret_ret ?_
          refine fin0 ttok rfl rfl ?_
          exact (wkP_refl _ rfl)
         ·replace hz9 := of_bif_f hz9 c25
          refine awp_skip (block_norm (then_norm (awp_go hmix (go_run' ttok 3 rfl (go_nil nd ?_)))))
          have e29 := of_some hz9
          subst e29
          refine then_norm ⟨rfl, (W64 (i + 1)), [(1, some 1)], ⟨rfl, rfl, rfl, rfl, rfl, ⟨wkP_id _ rfl, trivial⟩, trivial⟩, hk10⟩
        ·rw [g22]
         replace hz9 := of_bif_f hz9 g22
         refine go_run' ttok 13 rfl ?_
         refine go_nil (fun _ => by kernel_rfl) ?_
         refine then_norm ?_
         refine awp_cond rfl (fun h => by cases h) (fun tt0 => ?_)
         clear tt0
         refine awp_skip (block_norm (then_norm (awp_go hmix (go_run' ttok 3 rfl (go_nil nd ?_)))))
         have e30 := of_some hz9
         subst e30
         refine then_norm ⟨rfl, (W64 (i + 1)), [(1, some 1)], ⟨rfl, rfl, rfl, rfl, rfl, ⟨wkP_id _ rfl, trivial⟩, trivial⟩, hk10⟩
     ·replace hz9 := of_bif_f hz9 c11
      refine awp_exit (then_exit ?_)
      obtain ⟨t6, hn31, hq⟩ := of_mapr' hz9
      subst hq
      have hq : t6 = _ := hk10
      subst hq
      refine then_exit (block_here ?_)
      have e32 := of_some hn31
      refine then_norm ⟨rfl, (), [(1, some 1)], ⟨rfl, rfl, rfl, rfl, rfl, trivial, trivial⟩, e32⟩
    ·intro w hw8
     subst hw8
     replace h := of_inr h
     obtain ⟨y1, hx33, h⟩ := of_obind h
     refine awp_seqJ (X := Unit) [] [] (fun _ => []) (fun _ => []) (fun w1 => Sum.inr w1 = y1) rfl rfl ?_ ?_
     ·skip
      refine awp_seq (awp_go hmix (go_run' ttok 1 rfl (go_nil nd (then_norm (awp_block ?_)))))
      refine awp_loopD (X := Int) (Y := (Int ⊕ Unit)) [1] [1] (fun q => [(4, (I q))]) (fun q => []) (fun q => r19_checkLengths_s2 p q) 0 [(1, some 1)] hx33 ⟨rfl, rfl, rfl, rfl, rfl, ⟨wkP_id _ rfl, trivial⟩, trivial⟩ (fun i1 vR1 vz1 hz35 hk36 => ?_)
      change r19_checkLengths_s2 p i1 = _ at hz35
      unfold r19_checkLengths_s2 at hz35
      refine awp_seq (awp_seq (awp_go hmix (go_run' ttok 3 rfl ?_)))
      refine go_lenT I p.Prices ttok rfl rfl rfl rfl rfl rfl ?_
      refine go_run' ttok 1 rfl (go_nil nd (then_norm ?_))
      refine awp_cond (b := (decide (i1 < ((p.Prices.length : Nat) : Int)))) rfl (fun c37 => ?_) (fun c37 => ?_)
      ·replace hz35 := of_bif_t hz35 c37
       refine awp_skip (then_norm (awp_seq (awp_block (awp_seq (awp_go hmix (go_run' ttok 3 rfl ?_))))))
       obtain ⟨e4, hv38, hz35⟩ := of_obind hz35
       refine go_indexT I p.Prices i1 e4 hv38 ttok rfl rfl rfl rfl rfl rfl rfl rfl rfl ?_
       refine go_run' ttok 3 rfl ?_
       refine go_gcase rfl rfl rfl (fun g39 => ?_) (fun g39 => ?_)
       ·rw [g39]
        replace hz35 := of_bif_t hz35 g39
        refine go_run' ttok 7 rfl (go_nil nd (then_norm ?_))
        refine awp_cond rfl (fun tt0 => ?_) (fun h => by cases h)
        clear tt0
        refine awp_seq (awp_go hmix (go_run' ttok 1 rfl (go_nil nd (then_norm (awp_ret (block_ret (then_ret ?_)))))))
        obtain ⟨t7, hn40, hq⟩ := of_mapr' hz35
        subst hq
        have hq : t7 = _ := hk36
        subst hq
        refine then_ret (block_ret ?_)
        obtain ⟨t8, hn41, hq⟩ := of_mapl' hn40
        subst hq
        have hq := of_inl h
        replace hq := of_some hq
        subst hq
        refine then_ret ?_
        have e42 := of_some hn41
        subst e42
        refine ret_ret ?_
        refine fin0 ttok rfl rfl ?_
        exact (wkP_refl _ rfl)
       ·rw [g39]
        replace hz35 := of_bif_f hz35 g39
        refine go_run' ttok 3 rfl ?_
        obtain ⟨e5, hv43, hz35⟩ := of_obind hz35
        refine go_indexT I p.Prices i1 e5 hv43 ttok rfl rfl rfl rfl rfl rfl rfl rfl rfl ?_
        refine go_run' ttok 3 rfl (go_nil nd (then_norm ?_))
        refine awp_cond (b := (decide (1000000 < e5))) rfl (fun c44 => ?_) (fun c44 => ?_)
        ·replace hz35 := of_bif_t hz35 c44
         refine awp_seq (awp_go hmix (go_run' ttok 1 rfl (go_nil nd (then_norm (awp_ret (block_ret (then_ret ?_)))))))
         obtain ⟨t9, hn45, hq⟩ := of_mapr' hz35
         subst hq
         have hq : t9 = _ := hk36
         subst hq
         refine then_ret (block_ret ?_)
         obtain ⟨t10, hn46, hq⟩ := of_mapl' hn45
         subst hq
         have hq := of_inl h
         replace hq := of_some hq
         subst hq
         refine then_ret ?_
         have e47 := of_some hn46
         subst e47
         refine ret_ret ?_
         refine fin0 ttok rfl rfl ?_
         exact (wkP_refl _ rfl)
        ·replace hz35 := of_bif_f hz35 c44
         refine awp_skip (block_norm (then_norm (awp_go hmix (go_run' ttok 3 rfl (go_nil nd ?_)))))
         have e48 := of_some hz35
         subst e48
         refine then_norm ⟨rfl, (W64 (i1 + 1)), [(1, some 1)], ⟨rfl, rfl, rfl, rfl, rfl, ⟨wkP_id _ rfl, trivial⟩, trivial⟩, hk36⟩
      ·replace hz35 := of_bif_f hz35 c37
       refine awp_exit (then_exit ?_)
       obtain ⟨t11, hn49, hq⟩ := of_mapr' hz35
       subst hq
       have hq : t11 = _ := hk36
       subst hq
       refine then_exit (block_here ?_)
       have e50 := of_some hn49
       refine then_norm ⟨rfl, (), [], ⟨rfl, rfl, rfl, rfl, rfl, trivial, trivial⟩, e50⟩
     ·intro w1 hw34
      subst hw34
      replace h := of_inr h
      refine awp_seq (awp_go hmix (go_run' ttok 1 rfl (go_nil nd (then_norm (awp_ret ?_)))))
      have e51 := of_some h
      subst e51
      refine ret_ret ?_
      refine fin0 ttok rfl rfl ?_
      exact (wkP_refl _ rfl)

noncomputable def r19_Check_s2 (l : (List TProduct)) (i : Int) (e : TProduct) (k : Int) : Option (Int ⊕ (((Int ⊕ (Int ⊕ Unit)) ⊕ Unit) ⊕ Unit)) :=
 (bif (decide (k < i)) then (Option.bind (getI l k) (fun e1 => (bif (bEq e1.Name e.Name) then some (Sum.inr (Sum.inl (Sum.inl (Sum.inr (Sum.inl 7))))) else some (Sum.inl (W64 (k + 1)))))) else some (Sum.inr (Sum.inr ())))
noncomputable def r19_Check_s1 (l : (List TProduct)) (i : Int) : Option (Int ⊕ (Int ⊕ Unit)) :=
 (bif (decide (i < ((l.length : Nat) : Int))) then (Option.bind ((Option.bind (getI l i) (fun e => (Option.bind (r02_IsName_g e.Name) (fun iv => (bif (!iv) then some (Sum.inl (Sum.inr (Sum.inl 6))) else (Option.bind ((loopO (fun q => r19_Check_s2 l i e q) 0) : Option (((Int ⊕ (Int ⊕ Unit)) ⊕ Unit) ⊕ Unit)) (Sum.elim (fun q => some q) (fun _ => (bif (decide (e.Thick < 5)) then some (Sum.inl (Sum.inr (Sum.inl 9))) else (bif (decide (300 < e.Thick)) then some (Sum.inl (Sum.inr (Sum.inl 9))) else (bif (decide (e.Width < e.Thick)) then some (Sum.inl (Sum.inr (Sum.inl 9))) else (bif (decide (600 < e.Width)) then some (Sum.inl (Sum.inr (Sum.inl 9))) else (bif (decide (e.Allow < 0)) then some (Sum.inl (Sum.inr (Sum.inl 9))) else (bif (decide (200 < e.Allow)) then some (Sum.inl (Sum.inr (Sum.inl 9))) else (bif (decide (e.Wane < 0)) then some (Sum.inl (Sum.inr (Sum.inl 9))) else (bif (decide (1000 < e.Wane)) then some (Sum.inl (Sum.inr (Sum.inl 9))) else (letB (r19_Green_g e) (fun gv => (bif (decide (600 < gv.2)) then some (Sum.inl (Sum.inr (Sum.inl 9))) else (Option.bind (r19_checkLengths_g e) (fun cv => (bif (cv != 0) then some (Sum.inl (Sum.inr (Sum.inl cv))) else some (Sum.inr ()))))))))))))))))))))))) : Option ((Int ⊕ (Int ⊕ Unit)) ⊕ Unit)) (Sum.elim (fun q => some q) (fun _ => some (Sum.inl (W64 (i + 1)))))) else some (Sum.inr (Sum.inr ())))
/-- sawmill/sawmillref19.Check -/
noncomputable def r19_Check_g (l : (List TProduct)) : Option Int :=
 (bif (decide (16 < ((l.length : Nat) : Int))) then some 4 else (Option.bind ((loopO (fun q => r19_Check_s1 l q) 0) : Option (Int ⊕ Unit)) (Sum.elim (fun q => some q) (fun _ => some 0))))
theorem r19_Check_w (l : (List TProduct)) (r : Int) (h : r19_Check_g l = some r) : Holds Try.prog 53 [((encL encTProduct) l)] [] (I r) [] := by
 unfold r19_Check_g at h
 refine holds_fn Try.func53 rfl Try.ntmps53 rfl rfl rfl (fun lim => ?_)
 refine awp_seq (awp_go hmix (go_run' ttok 1 rfl (go_nil nd (then_norm (awp_seq (awp_seq (awp_go hmix (go_run' ttok 1 rfl ?_))))))))
 refine go_lenT encTProduct l ttok rfl rfl rfl rfl rfl rfl ?_
 refine go_run' ttok 1 rfl (go_nil nd (then_norm ?_))
 refine awp_cond (b := (decide (16 < ((l.length : Nat) : Int)))) rfl (fun c1 => ?_) (fun c1 => ?_)
 ·replace h := of_bif_t h c1
  refine awp_seq (awp_go hmix (go_run' ttok 1 rfl (go_nil nd (then_norm (awp_ret (then_ret ?_))))))
  have e2 := of_some h
  subst e2
  refine ret_ret ?_
  refine fin0 ttok rfl rfl ?_
  exact (wkP_refl _ rfl)
 ·replace h := of_bif_f h c1
  refine awp_skip (then_norm ?_)
  obtain ⟨y, hx3, h⟩ := of_obind h
  refine awp_seqJ (X := Unit) [] [] (fun _ => []) (fun _ => []) (fun w => Sum.inr w = y) rfl rfl ?_ ?_
  ·skip
   refine awp_seq (awp_go hmix (go_run' ttok 1 rfl (go_nil nd (then_norm (awp_block ?_)))))
   refine awp_loopD (X := Int) (Y := (Int ⊕ Unit)) [0] [] (fun q => [(3, (I q))]) (fun q => []) (fun q => r19_Check_s1 l q) 0 [] hx3 ⟨rfl, rfl, rfl, rfl, rfl, ⟨wkP_id _ rfl, trivial⟩, trivial⟩ (fun i vR vz hz5 hk6 => ?_)
   change r19_Check_s1 l i = _ at hz5
   unfold r19_Check_s1 at hz5
   refine awp_seq (awp_seq (awp_go hmix (go_run' ttok 2 rfl ?_)))
   refine go_lenT encTProduct l ttok rfl rfl rfl rfl rfl rfl ?_
   refine go_run' ttok 1 rfl (go_nil nd (then_norm ?_))
   refine awp_cond (b := (decide (i < ((l.length : Nat) : Int)))) rfl (fun c7 => ?_) (fun c7 => ?_)
   ·replace hz5 := of_bif_t hz5 c7
    refine awp_skip (then_norm ?_)
    obtain ⟨y1, hx8, hz5⟩ := of_obind hz5
    refine awp_seqJ (X := Unit) [0, 3] [] (fun _ => []) (fun _ => []) (fun w1 => Sum.inr w1 = y1) rfl rfl ?_ ?_
    ·skip
     refine awp_block (awp_seq (awp_go hmix (go_run' ttok 2 rfl ?_)))
     obtain ⟨e, hv10, hx8⟩ := of_obind hx8
     refine go_indexT encTProduct l i e hv10 ttok rfl rfl rfl rfl rfl rfl rfl rfl rfl ?_
     refine go_run' ttok 3 rfl (go_nil nd (then_norm (awp_seq (awp_seq (awp_go hmix (go_run' ttok 2 rfl ?_))))))
     obtain ⟨iv, hv11, hx8⟩ := of_obind hx8
     refine go_call fn77 (r02_IsName_w e.Name iv hv11) rfl rfl rfl rfl rfl rfl rfl ?_
     refine go_run' ttok 1 rfl (go_nil nd (then_norm ?_))
     refine awp_cond (b := (!iv)) rfl (fun c12 => ?_) (fun c12 => ?_)
     ·replace hx8 := of_bif_t hx8 c12
      refine awp_seq (awp_go hmix (go_run' ttok 1 rfl (go_nil nd (then_norm (awp_ret (then_ret (block_ret ?_)))))))
      obtain ⟨t, hn13, hq⟩ := of_mapl' hx8
      subst hq
      have hq := of_inl hz5
      replace hq := of_some hq
      subst hq
      refine then_ret ?_
      obtain ⟨t1, hn14, hq⟩ := of_mapr' hn13
      subst hq
      have hq : t1 = _ := hk6
      subst hq
      refine then_ret (block_ret ?_)
      obtain ⟨t2, hn15, hq⟩ := of_mapl' hn14
      subst hq
      have hq := of_inl h
      replace hq := of_some hq
      subst hq
      refine then_ret ?_
      have e16 := of_some hn15
      subst e16
      refine ret_ret ?_
      refine fin0 ttok rfl rfl ?_
      exact (wkP_refl _ rfl)
     ·replace hx8 := of_bif_f hx8 c12
      refine awp_skip (then_norm ?_)
      obtain ⟨y2, hx17, hx8⟩ := of_obind hx8
      refine awp_seqJ (X := Unit) [0, 3, 4] [4] (fun _ => []) (fun _ => []) (fun w2 => Sum.inr w2 = y2) rfl rfl ?_ ?_
      ·skip
       refine awp_seq (awp_go hmix (go_run' ttok 1 rfl (go_nil nd (then_norm (awp_block ?_)))))
       refine awp_loopD (X := Int) (Y := (((Int ⊕ (Int ⊕ Unit)) ⊕ Unit) ⊕ Unit)) [0, 3, 4] [4] (fun q => [(5, (I q))]) (fun q => []) (fun q => r19_Check_s2 l i e q) 0 [(4, some 4)] hx17 ⟨rfl, rfl, rfl, rfl, rfl, ⟨wkP_id _ rfl, trivial⟩, trivial⟩ (fun k vR1 vz1 hz19 hk20 => ?_)
       change r19_Check_s2 l i e k = _ at hz19
       unfold r19_Check_s2 at hz19
       refine awp_seq (awp_seq (awp_go hmix (go_run' ttok 3 rfl (go_nil nd (then_norm ?_)))))
       refine awp_cond (b := (decide (k < i))) rfl (fun c21 => ?_) (fun c21 => ?_)
       ·replace hz19 := of_bif_t hz19 c21
        refine awp_skip (then_norm (awp_seq (awp_block (awp_seq (awp_go hmix (go_run' ttok 2 rfl ?_))))))
        obtain ⟨e1, hv22, hz19⟩ := of_obind hz19
        refine go_indexT encTProduct l k e1 hv22 ttok rfl rfl rfl rfl rfl rfl rfl rfl rfl ?_
        refine go_run' ttok 4 rfl ?_
        refine go_eqlS e1.Name e.Name rfl rfl rfl rfl rfl ?_
        refine go_nil (fun _ => by kernel_rfl) ?_
        refine then_norm ?_
        refine awp_cond (b := (bEq e1.Name e.Name)) rfl (fun c23 => ?_) (fun c23 => ?_)
        ·replace hz19 := of_bif_t hz19 c23
         refine awp_seq (awp_go hmix (go_run' ttok 1 rfl (go_nil nd (then_norm (awp_ret (block_ret (then_ret ?_)))))))
         obtain ⟨t3, hn24, hq⟩ := of_mapr' hz19
         subst hq
         have hq : t3 = _ := hk20
         subst hq
         refine then_ret (block_ret ?_)
         obtain ⟨t4, hn25, hq⟩ := of_mapl' hn24
         subst hq
         have hq := of_inl hx8
         replace hq := of_some hq
         subst hq
         refine then_ret (block_ret ?_)
         obtain ⟨t5, hn26, hq⟩ := of_mapl' hn25
         subst hq
         have hq := of_inl hz5
         replace hq := of_some hq
         subst hq
         refine then_ret ?_
         obtain ⟨t6, hn27, hq⟩ := of_mapr' hn26
         subst hq
         have hq : t6 = _ := hk6
         subst hq
         refine then_ret (block_ret ?_)
         obtain ⟨t7, hn28, hq⟩ := of_mapl' hn27
         subst hq
         have hq := of_inl h
         replace hq := of_some hq
         subst hq
         refine then_ret ?_
         have e29 := of_some hn28
         subst e29
         refine ret_ret ?_
         refine fin0 ttok rfl rfl ?_
         exact (wkP_refl _ rfl)
        ·replace hz19 := of_bif_f hz19 c23
         refine awp_skip (block_norm (then_norm (awp_go hmix (go_run' ttok 3 rfl (go_nil nd ?_)))))
         have e30 := of_some hz19
         subst e30
         refine then_norm ⟨rfl, (W64 (k + 1)), [(4, some 4)], ⟨rfl, rfl, rfl, rfl, rfl, ⟨wkP_id _ rfl, trivial⟩, trivial⟩, hk20⟩
       ·replace hz19 := of_bif_f hz19 c21
        refine awp_exit (then_exit ?_)
        obtain ⟨t8, hn31, hq⟩ := of_mapr' hz19
        subst hq
        have hq : t8 = _ := hk20
        subst hq
        refine then_exit (block_here ?_)
        have e32 := of_some hn31
        refine then_norm ⟨rfl, (), [(4, some 4)], ⟨rfl, rfl, rfl, rfl, rfl, trivial, trivial⟩, e32⟩
      ·intro w2 hw18
       subst hw18
       replace hx8 := of_inr hx8
       refine awp_seq (awp_seq (awp_go hmix (go_run' ttok 4 rfl ?_)))
       refine go_gcase rfl rfl rfl (fun g33 => ?_) (fun g33 => ?_)
       ·rw [g33]
        replace hx8 := of_bif_t hx8 g33
        refine go_run' ttok 36 rfl (go_nil nd (then_norm ?_))
        refine awp_cond rfl (fun tt0 => ?_) (fun h => by cases h)
        clear tt0
        refine awp_seq (awp_go hmix (go_run' ttok 1 rfl (go_nil nd (then_norm (awp_ret (then_ret (block_ret ?_)))))))
        obtain ⟨t9, hn34, hq⟩ := of_mapl' hx8
        subst hq
        have hq := of_inl hz5
        replace hq := of_some hq
        subst hq
        refine then_ret ?_
        obtain ⟨t10, hn35, hq⟩ := of_mapr' hn34
        subst hq
        have hq : t10 = _ := hk6
        subst hq
        refine then_ret (block_ret ?_)
        obtain ⟨t11, hn36, hq⟩ := of_mapl' hn35
        subst hq
        have hq := of_inl h
        replace hq := of_some hq
        subst hq
        refine then_ret ?_
        have e37 := of_some hn36
        subst e37
        refine ret_ret ?_
        refine fin0 ttok rfl rfl ?_
        exact (wkP_refl _ rfl)
       ·rw [g33]
        replace hx8 := of_bif_f hx8 g33
        refine go_run' ttok 5 rfl ?_
        refine go_gcase rfl rfl rfl (fun g38 => ?_) (fun g38 => ?_)
        ·rw [g38]
         replace hx8 := of_bif_t hx8 g38
         refine go_run' ttok 31 rfl (go_nil nd (then_norm ?_))
         refine awp_cond rfl (fun tt0 => ?_) (fun h => by cases h)
         clear tt0
         refine awp_seq (awp_go hmix (go_run' ttok 1 rfl (go_nil nd (then_norm (awp_ret (then_ret (block_ret ?_)))))))
         obtain ⟨t12, hn39, hq⟩ := of_mapl' hx8
         subst hq
         have hq := of_inl hz5
         replace hq := of_some hq
         subst hq
         refine then_ret ?_
         obtain ⟨t13, hn40, hq⟩ := of_mapr' hn39
         subst hq
         have hq : t13 = _ := hk6
         subst hq
         refine then_ret (block_ret ?_)
         obtain ⟨t14, hn41, hq⟩ := of_mapl' hn40
         subst hq
         have hq := of_inl h
         replace hq := of_some hq
         subst hq
         refine then_ret ?_
         have e42 := of_some hn41
         subst e42
         refine ret_ret ?_
         refine fin0 ttok rfl rfl ?_
         exact (wkP_refl _ rfl)
        ·rw [g38]
         replace hx8 := of_bif_f hx8 g38
         refine go_run' ttok 7 rfl ?_
         refine go_gcase rfl rfl rfl (fun g43 => ?_) (fun g43 => ?_)
         ·rw [g43]
          replace hx8 := of_bif_t hx8 g43
          refine go_run' ttok 24 rfl (go_nil nd (then_norm ?_))
          refine awp_cond rfl (fun tt0 => ?_) (fun h => by cases h)
          clear tt0
          refine awp_seq (awp_go hmix (go_run' ttok 1 rfl (go_nil nd (then_norm (awp_ret (then_ret (block_ret ?_)))))))
          obtain ⟨t15, hn44, hq⟩ := of_mapl' hx8
          subst hq
          have hq := of_inl hz5
          replace hq := of_some hq
          subst hq
          refine then_ret ?_
          obtain ⟨t16, hn45, hq⟩ := of_mapr' hn44
          subst hq
          have hq : t16 = _ := hk6
          subst hq
          refine then_ret (block_ret ?_)
          obtain ⟨t17, hn46, hq⟩ := of_mapl' hn45
          subst hq
          have hq := of_inl h
          replace hq := of_some hq
          subst hq
          refine then_ret ?_
          have e47 := of_some hn46
          subst e47
          refine ret_ret ?_
          refine fin0 ttok rfl rfl ?_
          exact (wkP_refl _ rfl)
         ·rw [g43]
          replace hx8 := of_bif_f hx8 g43
          refine go_run' ttok 5 rfl ?_
          refine go_gcase rfl rfl rfl (fun g48 => ?_) (fun g48 => ?_)
          ·rw [g48]
           replace hx8 := of_bif_t hx8 g48
           refine go_run' ttok 19 rfl (go_nil nd (then_norm ?_))
           refine awp_cond rfl (fun tt0 => ?_) (fun h => by cases h)
           clear tt0
           refine awp_seq (awp_go hmix (go_run' ttok 1 rfl (go_nil nd (then_norm (awp_ret (then_ret (block_ret ?_)))))))
           obtain ⟨t18, hn49, hq⟩ := of_mapl' hx8
           subst hq
           have hq := of_inl hz5
           replace hq := of_some hq
           subst hq
           refine then_ret ?_
           obtain ⟨t19, hn50, hq⟩ := of_mapr' hn49
           subst hq
           have hq : t19 = _ := hk6
           subst hq
           refine then_ret (block_ret ?_)
           obtain ⟨t20, hn51, hq⟩ := of_mapl' hn50
           subst hq
           have hq := of_inl h
           replace hq := of_some hq
           subst hq
           refine then_ret ?_
           have e52 := of_some hn51
           subst e52
           refine ret_ret ?_
           refine fin0 ttok rfl rfl ?_
           exact (wkP_refl _ rfl)
          ·rw [g48]
           replace hx8 := of_bif_f hx8 g48
           refine go_run' ttok 5 rfl ?_
           refine go_gcase rfl rfl rfl (fun g53 => ?_) (fun g53 => ?_)
           ·rw [g53]
            replace hx8 := of_bif_t hx8 g53
            refine go_run' ttok 14 rfl (go_nil nd (then_norm ?_))
            refine awp_cond rfl (fun tt0 => ?_) (fun h => by cases h)
            clear tt0
            refine awp_seq (awp_go hmix (go_run' ttok 1 rfl (go_nil nd (then_norm (awp_ret (then_ret (block_ret ?_)))))))
            obtain ⟨t21, hn54, hq⟩ := of_mapl' hx8
            subst hq
            have hq := of_inl hz5
            replace hq := of_some hq
            subst hq
            refine then_ret ?_
            obtain ⟨t22, hn55, hq⟩ := of_mapr' hn54
            subst hq
            have hq : t22 = _ := hk6
            subst hq
            refine then_ret (block_ret ?_)
            obtain ⟨t23, hn56, hq⟩ := of_mapl' hn55
            subst hq
            have hq := of_inl h
            replace hq := of_some hq
            subst hq
            refine then_ret ?_
            have e57 := of_some hn56
            subst e57
            refine ret_ret ?_
            refine fin0 ttok rfl rfl ?_
            exact (wkP_refl _ rfl)
           ·rw [g53]
            replace hx8 := of_bif_f hx8 g53
            refine go_run' ttok 5 rfl ?_
            refine go_gcase rfl rfl rfl (fun g58 => ?_) (fun g58 => ?_)
            ·rw [g58]
             replace hx8 := of_bif_t hx8 g58
             refine go_run' ttok 9 rfl (go_nil nd (then_norm ?_))
             refine awp_cond rfl (fun tt0 => ?_) (fun h => by cases h)
             clear tt0
             refine awp_seq (awp_go hmix (go_run' ttok 1 rfl (go_nil nd (then_norm (awp_ret (then_ret (block_ret ?_)))))))
             obtain ⟨t24, hn59, hq⟩ := of_mapl' hx8
             subst hq
             have hq := of_inl hz5
             replace hq := of_some hq
             subst hq
             refine then_ret ?_
             obtain ⟨t25, hn60, hq⟩ := of_mapr' hn59
             subst hq
             have hq : t25 = _ := hk6
             subst hq
             refine then_ret (block_ret ?_)
             obtain ⟨t26, hn61, hq⟩ := of_mapl' hn60
             subst hq
             have hq := of_inl h
             replace hq := of_some hq
             subst hq
             refine then_ret ?_
             have e62 := of_some hn61
             subst e62
             refine ret_ret ?_
             refine fin0 ttok rfl rfl ?_
             exact (wkP_refl _ rfl)
            ·rw [g58]
             replace hx8 := of_bif_f hx8 g58
             refine go_run' ttok 5 rfl ?_
             refine go_gcase rfl rfl rfl (fun g63 => ?_) (fun g63 => ?_)
             ·rw [g63]
              replace hx8 := of_bif_t hx8 g63
              refine go_run' ttok 4 rfl (go_nil nd (then_norm ?_))
              refine awp_cond rfl (fun tt0 => ?_) (fun h => by cases h)
              clear tt0
              refine awp_seq (awp_go hmix (go_run' ttok 1 rfl (go_nil nd (then_norm (awp_ret (then_ret (block_ret ?_)))))))
              obtain ⟨t27, hn64, hq⟩ := of_mapl' hx8
              subst hq
              have hq := of_inl hz5
              replace hq := of_some hq
              subst hq
              refine then_ret ?_
              obtain ⟨t28, hn65, hq⟩ := of_mapr' hn64
              subst hq
              have hq : t28 = _ := hk6
              subst hq
              refine then_ret (block_ret ?_)
              obtain ⟨t29, hn66, hq⟩ := of_mapl' hn65
              subst hq
              have hq := of_inl h
              replace hq := of_some hq
              subst hq
              refine then_ret ?_
              have e67 := of_some hn66
              subst e67
              refine ret_ret ?_
              refine fin0 ttok rfl rfl ?_
              exact (wkP_refl _ rfl)
             ·rw [g63]
              replace hx8 := of_bif_f hx8 g63
              refine go_run' ttok 4 rfl (go_nil nd (then_norm ?_))
              refine awp_cond (b := (decide (1000 < e.Wane))) rfl (fun c68 => ?_) (fun c68 => ?_)
              ·replace hx8 := of_bif_t hx8 c68
               refine awp_seq (awp_go hmix (go_run' ttok 1 rfl (go_nil nd (then_norm (awp_ret (then_ret (block_ret ?_)))))))
               obtain ⟨t30, hn69, hq⟩ := of_mapl' hx8
               subst hq
               have hq := of_inl hz5
               replace hq := of_some hq
               subst hq
               refine then_ret ?_
               obtain ⟨t31, hn70, hq⟩ := of_mapr' hn69
               subst hq
               have hq : t31 = _ := hk6
               subst hq
               refine then_ret (block_ret ?_)
               obtain ⟨t32, hn71, hq⟩ := of_mapl' hn70
               subst hq
               have hq := of_inl h
               replace hq := of_some hq
               subst hq
               refine then_ret ?_
               have e72 := of_some hn71
               subst e72
               refine ret_ret ?_
               refine fin0 ttok rfl rfl ?_
               exact (wkP_refl _ rfl)
              ·replace hx8 := of_bif_f hx8 c68
               refine awp_skip (then_norm (awp_seq (awp_seq (awp_go hmix (go_run' ttok 1 rfl ?_)))))
               obtain ⟨gv, hv73, hx8⟩ := of_let hx8
               refine go_call fn57 (r19_Green_w e gv hv73) rfl rfl rfl rfl rfl rfl rfl ?_
               refine go_run' ttok 5 rfl (go_nil nd (then_norm (awp_seq (awp_go hmix (go_run' ttok 2 rfl (go_nil nd (then_norm ?_)))))))
               refine awp_cond (b := (decide (600 < gv.2))) rfl (fun c74 => ?_) (fun c74 => ?_)
               ·replace hx8 := of_bif_t hx8 c74
                refine awp_seq (awp_go hmix (go_run' ttok 1 rfl (go_nil nd (then_norm (awp_ret (then_ret (block_ret ?_)))))))
                obtain ⟨t33, hn75, hq⟩ := of_mapl' hx8
                subst hq
                have hq := of_inl hz5
                replace hq := of_some hq
                subst hq
                refine then_ret ?_
                obtain ⟨t34, hn76, hq⟩ := of_mapr' hn75
                subst hq
                have hq : t34 = _ := hk6
                subst hq
                refine then_ret (block_ret ?_)
                obtain ⟨t35, hn77, hq⟩ := of_mapl' hn76
                subst hq
                have hq := of_inl h
                replace hq := of_some hq
                subst hq
                refine then_ret ?_
                have e78 := of_some hn77
                subst e78
                refine ret_ret ?_
                refine fin0 ttok rfl rfl ?_
                exact (wkP_refl _ rfl)
               ·replace hx8 := of_bif_f hx8 c74
                refine awp_skip (then_norm (awp_seq (awp_go hmix (go_run' ttok 1 rfl ?_))))
                obtain ⟨cv, hv79, hx8⟩ := of_obind hx8
                refine go_call fn78 (r19_checkLengths_w e cv hv79) rfl rfl rfl rfl rfl rfl rfl ?_
                refine go_run' ttok 1 rfl (go_nil nd (then_norm (awp_seq (awp_go hmix (go_run' ttok 2 rfl (go_nil nd (then_norm ?_)))))))
                refine awp_cond (b := (cv != 0)) rfl (fun c80 => ?_) (fun c80 => ?_)
                ·replace hx8 := of_bif_t hx8 c80
                 refine awp_seq (awp_go hmix (go_run' ttok 2 rfl (go_nil nd (then_norm (awp_ret (block_ret ?_))))))
                 obtain ⟨t36, hn81, hq⟩ := of_mapl' hx8
                 subst hq
                 have hq := of_inl hz5
                 replace hq := of_some hq
                 subst hq
                 refine then_ret ?_
                 obtain ⟨t37, hn82, hq⟩ := of_mapr' hn81
                 subst hq
                 have hq : t37 = _ := hk6
                 subst hq
                 refine then_ret (block_ret ?_)
                 obtain ⟨t38, hn83, hq⟩ := of_mapl' hn82
                 subst hq
                 have hq := of_inl h
                 replace hq := of_some hq
                 subst hq
                 refine then_ret ?_
                 have e84 := of_some hn83
                 subst e84
                 refine ret_ret ?_
                 refine fin0 ttok rfl rfl ?_
                 exact (wkP_refl _ rfl)
                ·replace hx8 := of_bif_f hx8 c80
                 refine awp_skip (block_norm ?_)
                 have e85 := of_some hx8
                 refine then_norm ⟨rfl, (), [], ⟨rfl, rfl, rfl, rfl, rfl, trivial, trivial⟩, e85⟩
    ·intro w1 hw9
     subst hw9
     replace hz5 := of_inr hz5
     refine awp_go hmix (go_run' ttok 3 rfl (go_nil nd ?_))
     have e86 := of_some hz5
     subst e86
     refine then_norm ⟨rfl, (W64 (i + 1)), [], ⟨rfl, rfl, rfl, rfl, rfl, ⟨wkP_id _ rfl, trivial⟩, trivial⟩, hk6⟩
   ·replace hz5 := of_bif_f hz5 c7
    refine awp_exit (then_exit ?_)
    obtain ⟨t39, hn87, hq⟩ := of_mapr' hz5
    subst hq
    have hq : t39 = _ := hk6
    subst hq
    refine then_exit (block_here ?_)
    have e88 := of_some hn87
    refine then_norm ⟨rfl, (), [], ⟨rfl, rfl, rfl, rfl, rfl, trivial, trivial⟩, e88⟩
  ·intro w hw4
   subst hw4
   replace h := of_inr h
   refine awp_seq (awp_go hmix (go_run' ttok 1 rfl (go_nil nd (then_norm (awp_ret ?_)))))
   have e89 := of_some h
   subst e89
   refine ret_ret ?_
   refine fin0 ttok rfl rfl ?_
   exact (wkP_refl _ rfl)

/-- sawmill/sawmillref27.wide -/
noncomputable def r27_wide_g (s : Sp) : Bool :=
 (bif (decide ((-600) ≤ s.a)) then (bif (decide (s.a ≤ 600)) then (bif (decide ((-600) ≤ s.b)) then (decide (s.b ≤ 600)) else false) else false) else false)
theorem r27_wide_w (s : Sp) (r : Bool) (h : r27_wide_g s = r) : Holds Try.prog 54 [(encSp s)] [] (B r) [] := by
 unfold r27_wide_g at h
 refine holds_fn Try.func54 rfl Try.ntmps54 rfl rfl rfl (fun lim => ?_)
 refine awp_seq (awp_go hmix (go_run' ttok 2 rfl (go_nil nd (then_norm (awp_seq (awp_go hmix (go_run' ttok 4 rfl ?_)))))))
 refine go_gcase rfl rfl rfl (fun g1 => ?_) (fun g1 => ?_)
 ·rw [g1]
  replace h := of_bif_t h g1
  refine go_run' ttok 5 rfl ?_
  refine go_gcase rfl rfl rfl (fun g2 => ?_) (fun g2 => ?_)
  ·rw [g2]
   replace h := of_bif_t h g2
   refine go_run' ttok 5 rfl ?_
   refine go_gcase rfl rfl rfl (fun g3 => ?_) (fun g3 => ?_)
   ·rw [g3]
    replace h := of_bif_t h g3
    refine go_run' ttok 5 rfl (go_nil nd (then_norm (awp_ret ?_)))
    have e4 := h
    subst e4
    refine ret_ret ?_
    refine fin0 ttok rfl rfl ?_
    exact (wkP_refl _ rfl)
   ·rw [g3]
    replace h := of_bif_f h g3
    refine go_run' ttok 5 rfl (go_nil nd (then_norm (awp_ret ?_)))
    have e5 := h
    subst e5
    refine ret_ret ?_
    refine fin0 ttok rfl rfl ?_
    exact (wkP_refl _ rfl)
  ·rw [g2]
   replace h := of_bif_f h g2
   refine go_run' ttok 10 rfl (go_nil nd (then_norm (awp_ret ?_)))
   have e6 := h
   subst e6
   refine ret_ret ?_
   refine fin0 ttok rfl rfl ?_
   exact (wkP_refl _ rfl)
 ·rw [g1]
  replace h := of_bif_f h g1
  refine go_run' ttok 15 rfl (go_nil nd (then_norm (awp_ret ?_)))
  have e7 := h
  subst e7
  refine ret_ret ?_
  refine fin0 ttok rfl rfl ?_
  exact (wkP_refl _ rfl)

/-- sawmill/sawmillref27.along -/
noncomputable def r27_along_g (n : Int) : Bool :=
 (bif (decide (0 ≤ n)) then (decide (n ≤ 20000)) else false)
theorem r27_along_w (n : Int) (r : Bool) (h : r27_along_g n = r) : Holds Try.prog 55 [(I n)] [] (B r) [] := by
 unfold r27_along_g at h
 refine holds_fn Try.func55 rfl Try.ntmps55 rfl rfl rfl (fun lim => ?_)
 refine awp_seq (awp_go hmix (go_run' ttok 1 rfl (go_nil nd (then_norm (awp_seq (awp_go hmix (go_run' ttok 3 rfl ?_)))))))
 refine go_gcase rfl rfl rfl (fun g1 => ?_) (fun g1 => ?_)
 ·rw [g1]
  replace h := of_bif_t h g1
  refine go_run' ttok 4 rfl (go_nil nd (then_norm (awp_ret ?_)))
  have e2 := h
  subst e2
  refine ret_ret ?_
  refine fin0 ttok rfl rfl ?_
  exact (wkP_refl _ rfl)
 ·rw [g1]
  replace h := of_bif_f h g1
  refine go_run' ttok 4 rfl (go_nil nd (then_norm (awp_ret ?_)))
  have e3 := h
  subst e3
  refine ret_ret ?_
  refine fin0 ttok rfl rfl ?_
  exact (wkP_refl _ rfl)

/-- sawmill/sawmillref13.Empty -/
noncomputable def r13_Empty_g (b : Bx) : Bool :=
 (bif (decide (b.x.b ≤ b.x.a)) then true else (bif (decide (b.y.b ≤ b.y.a)) then true else (decide (b.z.b ≤ b.z.a))))
theorem r13_Empty_w (b : Bx) (r : Bool) (h : r13_Empty_g b = r) : Holds Try.prog 79 [(encBx b)] [] (B r) [] := by
 unfold r13_Empty_g at h
 refine holds_fn Try.func79 rfl Try.ntmps79 rfl rfl rfl (fun lim => ?_)
 refine awp_seq (awp_go hmix (go_run' ttok 2 rfl (go_nil nd (then_norm (awp_seq (awp_go hmix (go_run' ttok 8 rfl ?_)))))))
 refine go_gcase rfl rfl rfl (fun g1 => ?_) (fun g1 => ?_)
 ·rw [g1]
  replace h := of_bif_t h g1
  refine go_run' ttok 18 rfl (go_nil nd (then_norm (awp_ret ?_)))
  have e2 := h
  subst e2
  refine ret_ret ?_
  refine fin0 ttok rfl rfl ?_
  exact (wkP_refl _ rfl)
 ·rw [g1]
  replace h := of_bif_f h g1
  refine go_run' ttok 9 rfl ?_
  refine go_gcase rfl rfl rfl (fun g3 => ?_) (fun g3 => ?_)
  ·rw [g3]
   replace h := of_bif_t h g3
   refine go_run' ttok 9 rfl (go_nil nd (then_norm (awp_ret ?_)))
   have e4 := h
   subst e4
   refine ret_ret ?_
   refine fin0 ttok rfl rfl ?_
   exact (wkP_refl _ rfl)
  ·rw [g3]
   replace h := of_bif_f h g3
   refine go_run' ttok 9 rfl (go_nil nd (then_norm (awp_ret ?_)))
   have e5 := h
   subst e5
   refine ret_ret ?_
   refine fin0 ttok rfl rfl ?_
   exact (wkP_refl _ rfl)

/-- sawmill/sawmillref13.in -/
noncomputable def r13_in_g (s : Sp) (low : Int) (high : Int) : Bool :=
 (bif (decide (low ≤ s.a)) then (decide (s.b ≤ high)) else false)
theorem r13_in_w (s : Sp) (low : Int) (high : Int) (r : Bool) (h : r13_in_g s low high = r) : Holds Try.prog 93 [(encSp s), (I low), (I high)] [] (B r) [] := by
 unfold r13_in_g at h
 refine holds_fn Try.func93 rfl Try.ntmps93 rfl rfl rfl (fun lim => ?_)
 refine awp_seq (awp_go hmix (go_run' ttok 2 rfl (go_nil nd (then_norm (awp_seq (awp_go hmix (go_run' ttok 5 rfl ?_)))))))
 refine go_gcase rfl rfl rfl (fun g1 => ?_) (fun g1 => ?_)
 ·rw [g1]
  replace h := of_bif_t h g1
  refine go_run' ttok 6 rfl (go_nil nd (then_norm (awp_ret ?_)))
  have e2 := h
  subst e2
  refine ret_ret ?_
  refine fin0 ttok rfl rfl ?_
  exact (wkP_refl _ rfl)
 ·rw [g1]
  replace h := of_bif_f h g1
  refine go_run' ttok 6 rfl (go_nil nd (then_norm (awp_ret ?_)))
  have e3 := h
  subst e3
  refine ret_ret ?_
  refine fin0 ttok rfl rfl ?_
  exact (wkP_refl _ rfl)

/-- sawmill/sawmillref13.Ranged -/
noncomputable def r13_Ranged_g (b : Bx) : Bool :=
 (bif (r13_in_g b.x (-600) 600) then (bif (r13_in_g b.y (-600) 600) then (r13_in_g b.z 0 20000) else false) else false)
theorem r13_Ranged_w (b : Bx) (r : Bool) (h : r13_Ranged_g b = r) : Holds Try.prog 80 [(encBx b)] [] (B r) [] := by
 unfold r13_Ranged_g at h
 refine holds_fn Try.func80 rfl Try.ntmps80 rfl rfl rfl (fun lim => ?_)
 refine awp_seq (awp_go hmix (go_run' ttok 2 rfl (go_nil nd (then_norm (awp_seq (awp_go hmix (go_run' ttok 2 rfl ?_)))))))
 refine go_call fn93 (r13_in_w b.x (-600) 600 _ rfl) rfl rfl rfl rfl rfl rfl rfl ?_
 refine go_run' ttok 1 rfl ?_
 refine go_gcase rfl rfl rfl (fun g1 => ?_) (fun g1 => ?_)
 ·rw [g1]
  replace h := of_bif_t h g1
  refine go_run' ttok 2 rfl ?_
  refine go_call fn93 (r13_in_w b.y (-600) 600 _ rfl) rfl rfl rfl rfl rfl rfl rfl ?_
  refine go_run' ttok 2 rfl ?_
  refine go_gcase rfl rfl rfl (fun g2 => ?_) (fun g2 => ?_)
  ·rw [g2]
   replace h := of_bif_t h g2
   refine go_run' ttok 2 rfl ?_
   refine go_call fn93 (r13_in_w b.z 0 20000 _ rfl) rfl rfl rfl rfl rfl rfl rfl ?_
   refine go_run' ttok 2 rfl (go_nil nd (then_norm (awp_ret ?_)))
   have e3 := h
   subst e3
   refine ret_ret ?_
   refine fin0 ttok rfl rfl ?_
   exact (wkP_refl _ rfl)
  ·rw [g2]
   replace h := of_bif_f h g2
   refine go_run' ttok 5 rfl (go_nil nd (then_norm (awp_ret ?_)))
   have e4 := h
   subst e4
   refine ret_ret ?_
   refine fin0 ttok rfl rfl ?_
   exact (wkP_refl _ rfl)
 ·rw [g1]
  replace h := of_bif_f h g1
  refine go_run' ttok 10 rfl (go_nil nd (then_norm (awp_ret ?_)))
  have e5 := h
  subst e5
  refine ret_ret ?_
  refine fin0 ttok rfl rfl ?_
  exact (wkP_refl _ rfl)

noncomputable def r13_Check_s1 (l : (List Df)) (i : Int) : Option (Int ⊕ (Int ⊕ Unit)) :=
 (bif (decide (i < ((l.length : Nat) : Int))) then (Option.bind ((Option.bind (getI l i) (fun e => (bif (decide (e.k < 1)) then some true else (Option.bind (getI l i) (fun e1 => some (decide (6 < e1.k))))))) : Option Bool) (fun vv => (bif vv then some (Sum.inr (Sum.inl 10)) else (Option.bind (getI l i) (fun e2 => (bif (r13_Empty_g e2.b) then some (Sum.inr (Sum.inl 19)) else (Option.bind (getI l i) (fun e3 => (bif (!(r13_Ranged_g e3.b)) then some (Sum.inr (Sum.inl 9)) else some (Sum.inl (W64 (i + 1)))))))))))) else some (Sum.inr (Sum.inr ())))
/-- sawmill/sawmillref13.Check -/
noncomputable def r13_Check_g (l : (List Df)) : Option Int :=
 (bif (decide (64 < ((l.length : Nat) : Int))) then some 4 else (Option.bind ((loopO (fun q => r13_Check_s1 l q) 0) : Option (Int ⊕ Unit)) (Sum.elim (fun q => some q) (fun _ => some 0))))
theorem r13_Check_w (l : (List Df)) (r : Int) (h : r13_Check_g l = some r) : Holds Try.prog 56 [((encL encDf) l)] [] (I r) [] := by
 unfold r13_Check_g at h
 refine holds_fn Try.func56 rfl Try.ntmps56 rfl rfl rfl (fun lim => ?_)
 refine awp_seq (awp_go hmix (go_run' ttok 1 rfl (go_nil nd (then_norm (awp_seq (awp_seq (awp_go hmix (go_run' ttok 1 rfl ?_))))))))
 refine go_lenT encDf l ttok rfl rfl rfl rfl rfl rfl ?_
 refine go_run' ttok 1 rfl (go_nil nd (then_norm ?_))
 refine awp_cond (b := (decide (64 < ((l.length : Nat) : Int)))) rfl (fun c1 => ?_) (fun c1 => ?_)
 ·replace h := of_bif_t h c1
  refine awp_seq (awp_go hmix (go_run' ttok 1 rfl (go_nil nd (then_norm (awp_ret (then_ret ?_))))))
  have e2 := of_some h
  subst e2
  refine ret_ret ?_
  refine fin0 ttok rfl rfl ?_
  exact (wkP_refl _ rfl)
 ·replace h := of_bif_f h c1
  refine awp_skip (then_norm ?_)
  obtain ⟨y, hx3, h⟩ := of_obind h
  refine awp_seqJ (X := Unit) [] [] (fun _ => []) (fun _ => []) (fun w => Sum.inr w = y) rfl rfl ?_ ?_
  ·skip
   refine awp_seq (awp_go hmix (go_run' ttok 1 rfl (go_nil nd (then_norm (awp_block ?_)))))
   refine awp_loopD (X := Int) (Y := (Int ⊕ Unit)) [0] [] (fun q => [(3, (I q))]) (fun q => []) (fun q => r13_Check_s1 l q) 0 [] hx3 ⟨rfl, rfl, rfl, rfl, rfl, ⟨wkP_id _ rfl, trivial⟩, trivial⟩ (fun i vR vz hz5 hk6 => ?_)
   change r13_Check_s1 l i = _ at hz5
   unfold r13_Check_s1 at hz5
   refine awp_seq (awp_seq (awp_go hmix (go_run' ttok 2 rfl ?_)))
   refine go_lenT encDf l ttok rfl rfl rfl rfl rfl rfl ?_
   refine go_run' ttok 1 rfl (go_nil nd (then_norm ?_))
   refine awp_cond (b := (decide (i < ((l.length : Nat) : Int)))) rfl (fun c7 => ?_) (fun c7 => ?_)
   ·replace hz5 := of_bif_t hz5 c7
    refine awp_skip (then_norm (awp_seq (awp_block (awp_block ?_))))
    obtain ⟨y1, hx8, hz5⟩ := of_obind hz5
    refine awp_seqJ (X := Bool) [0, 3] [] (fun w1 => [(13, (B w1))]) (fun w1 => []) (fun w1 => w1 = y1) rfl rfl ?_ ?_
    ·skip
     refine awp_go hmix (go_run' ttok 2 rfl ?_)
     obtain ⟨e, hv10, hx8⟩ := of_obind hx8
     refine go_indexT encDf l i e hv10 ttok rfl rfl rfl rfl rfl rfl rfl rfl rfl ?_
     refine go_run' ttok 4 rfl ?_
     refine go_gcase rfl rfl rfl (fun g11 => ?_) (fun g11 => ?_)
     ·rw [g11]
      replace hx8 := of_bif_t hx8 g11
      refine go_run' ttok 8 rfl (go_nil nd ?_)
      have e12 := of_some hx8
      refine then_norm ⟨rfl, true, [], ⟨rfl, rfl, rfl, rfl, rfl, ⟨wkP_id _ rfl, trivial⟩, trivial⟩, e12⟩
     ·rw [g11]
      replace hx8 := of_bif_f hx8 g11
      refine go_run' ttok 2 rfl ?_
      obtain ⟨e1, hv13, hx8⟩ := of_obind hx8
      refine go_indexT encDf l i e1 hv13 ttok rfl rfl rfl rfl rfl rfl rfl rfl rfl ?_
      refine go_run' ttok 5 rfl (go_nil nd ?_)
      have e14 := of_some hx8
      refine then_norm ⟨rfl, (decide (6 < e1.k)), [], ⟨rfl, rfl, rfl, rfl, rfl, ⟨wkP_id _ rfl, trivial⟩, trivial⟩, e14⟩
    ·intro vv hw9
     subst hw9
     refine awp_cond (b := vv) rfl (fun c15 => ?_) (fun c15 => ?_)
     ·replace hz5 := of_bif_t hz5 c15
      refine awp_seq (awp_go hmix (go_run' ttok 1 rfl (go_nil nd (then_norm (awp_ret (block_ret (block_ret (then_ret ?_))))))))
      obtain ⟨t, hn16, hq⟩ := of_mapr' hz5
      subst hq
      have hq : t = _ := hk6
      subst hq
      refine then_ret (block_ret ?_)
      obtain ⟨t1, hn17, hq⟩ := of_mapl' hn16
      subst hq
      have hq := of_inl h
      replace hq := of_some hq
      subst hq
      refine then_ret ?_
      have e18 := of_some hn17
      subst e18
      refine ret_ret ?_
      refine fin0 ttok rfl rfl ?_
      exact (wkP_refl _ rfl)
     ·replace hz5 := of_bif_f hz5 c15
      refine awp_seq (awp_go hmix (go_run' ttok 2 rfl ?_))
      obtain ⟨e2, hv19, hz5⟩ := of_obind hz5
      refine go_indexT encDf l i e2 hv19 ttok rfl rfl rfl rfl rfl rfl rfl rfl rfl ?_
      refine go_run' ttok 2 rfl ?_
      refine go_call fn79 (r13_Empty_w e2.b _ rfl) rfl rfl rfl rfl rfl rfl rfl ?_
      refine go_run' ttok 1 rfl (go_nil nd (then_norm ?_))
      refine awp_cond (b := (r13_Empty_g e2.b)) rfl (fun c20 => ?_) (fun c20 => ?_)
      ·replace hz5 := of_bif_t hz5 c20
       refine awp_seq (awp_go hmix (go_run' ttok 1 rfl (go_nil nd (then_norm (awp_ret (block_ret (block_ret (then_ret ?_))))))))
       obtain ⟨t2, hn21, hq⟩ := of_mapr' hz5
       subst hq
       have hq : t2 = _ := hk6
       subst hq
       refine then_ret (block_ret ?_)
       obtain ⟨t3, hn22, hq⟩ := of_mapl' hn21
       subst hq
       have hq := of_inl h
       replace hq := of_some hq
       subst hq
       refine then_ret ?_
       have e23 := of_some hn22
       subst e23
       refine ret_ret ?_
       refine fin0 ttok rfl rfl ?_
       exact (wkP_refl _ rfl)
      ·replace hz5 := of_bif_f hz5 c20
       refine awp_seq (awp_go hmix (go_run' ttok 2 rfl ?_))
       obtain ⟨e3, hv24, hz5⟩ := of_obind hz5
       refine go_indexT encDf l i e3 hv24 ttok rfl rfl rfl rfl rfl rfl rfl rfl rfl ?_
       refine go_run' ttok 2 rfl ?_
       refine go_call fn80 (r13_Ranged_w e3.b _ rfl) rfl rfl rfl rfl rfl rfl rfl ?_
       refine go_run' ttok 2 rfl (go_nil nd (then_norm ?_))
       refine awp_cond (b := (!(r13_Ranged_g e3.b))) rfl (fun c25 => ?_) (fun c25 => ?_)
       ·replace hz5 := of_bif_t hz5 c25
        refine awp_seq (awp_go hmix (go_run' ttok 1 rfl (go_nil nd (then_norm (awp_ret (block_ret (block_ret (then_ret ?_))))))))
        obtain ⟨t4, hn26, hq⟩ := of_mapr' hz5
        subst hq
        have hq : t4 = _ := hk6
        subst hq
        refine then_ret (block_ret ?_)
        obtain ⟨t5, hn27, hq⟩ := of_mapl' hn26
        subst hq
        have hq := of_inl h
        replace hq := of_some hq
        subst hq
        refine then_ret ?_
        have e28 := of_some hn27
        subst e28
        refine ret_ret ?_
        refine fin0 ttok rfl rfl ?_
        exact (wkP_refl _ rfl)
       ·replace hz5 := of_bif_f hz5 c25
        refine awp_skip (block_norm (block_norm (then_norm (awp_go hmix (go_run' ttok 3 rfl (go_nil nd ?_))))))
        have e29 := of_some hz5
        subst e29
        refine then_norm ⟨rfl, (W64 (i + 1)), [], ⟨rfl, rfl, rfl, rfl, rfl, ⟨wkP_id _ rfl, trivial⟩, trivial⟩, hk6⟩
   ·replace hz5 := of_bif_f hz5 c7
    refine awp_exit (then_exit ?_)
    obtain ⟨t6, hn30, hq⟩ := of_mapr' hz5
    subst hq
    have hq : t6 = _ := hk6
    subst hq
    refine then_exit (block_here ?_)
    have e31 := of_some hn30
    refine then_norm ⟨rfl, (), [], ⟨rfl, rfl, rfl, rfl, rfl, trivial, trivial⟩, e31⟩
  ·intro w hw4
   subst hw4
   replace h := of_inr h
   refine awp_seq (awp_go hmix (go_run' ttok 1 rfl (go_nil nd (then_norm (awp_ret ?_)))))
   have e32 := of_some h
   subst e32
   refine ret_ret ?_
   refine fin0 ttok rfl rfl ?_
   exact (wkP_refl _ rfl)

/-- sawmill/sawmillref27.size -/
noncomputable def r27_size_g (s : Sp) : Int :=
 (W64 (s.b - s.a))
theorem r27_size_w (s : Sp) (r : Int) (h : r27_size_g s = r) : Holds Try.prog 40 [(encSp s)] [] (I r) [] := by
 unfold r27_size_g at h
 refine holds_fn Try.func40 rfl Try.ntmps40 rfl rfl rfl (fun lim => ?_)
 refine awp_seq (awp_go hmix (go_run' ttok 2 rfl (go_nil nd (then_norm (awp_seq (awp_go hmix (go_run' ttok 6 rfl (go_nil nd (then_norm (awp_ret ?_))))))))))
 have e1 := h
 subst e1
 refine ret_ret ?_
 refine fin0 ttok rfl rfl ?_
 exact (wkP_refl _ rfl)

noncomputable def r19_Price_s1 (p : TProduct) (length : Int) (i : Int) : Option (Int ⊕ ((Int × Bool) ⊕ Unit)) :=
 (bif (decide (i < ((p.Lengths.length : Nat) : Int))) then (Option.bind (getI p.Lengths i) (fun e => (bif (e == length) then (bif (decide (((p.Prices.length : Nat) : Int) ≤ i)) then some (Sum.inr (Sum.inl (0, false))) else (Option.bind (getI p.Prices i) (fun e1 => some (Sum.inr (Sum.inl (e1, true)))))) else some (Sum.inl (W64 (i + 1)))))) else some (Sum.inr (Sum.inr ())))
/-- sawmill/sawmillref19.Price -/
noncomputable def r19_Price_g (p : TProduct) (length : Int) : Option (Int × Bool) :=
 (Option.bind ((loopO (fun q => r19_Price_s1 p length q) 0) : Option ((Int × Bool) ⊕ Unit)) (Sum.elim (fun q => some q) (fun _ => some (0, false))))
theorem r19_Price_w (p : TProduct) (length : Int) (r : (Int × Bool)) (h : r19_Price_g p length = some r) : Holds Try.prog 58 [(encTProduct p), (I length)] [] (.tup [(I r.1), (B r.2)]) [] := by
 unfold r19_Price_g at h
 refine holds_fn Try.func58 rfl Try.ntmps58 rfl rfl rfl (fun lim => ?_)
 refine awp_seq (awp_go hmix (go_run' ttok 3 rfl (go_nil nd (then_norm ?_))))
 obtain ⟨y, hx1, h⟩ := of_obind h
 refine awp_seqJ (X := Unit) [] [] (fun _ => []) (fun _ => []) (fun w => Sum.inr w = y) rfl rfl ?_ ?_
 ·skip
  refine awp_seq (awp_go hmix (go_run' ttok 1 rfl (go_nil nd (then_norm (awp_block ?_)))))
  refine awp_loopD (X := Int) (Y := ((Int × Bool) ⊕ Unit)) [1, 2] [2] (fun q => [(6, (I q))]) (fun q => []) (fun q => r19_Price_s1 p length q) 0 [(2, some 2)] hx1 ⟨rfl, rfl, rfl, rfl, rfl, ⟨wkP_id _ rfl, trivial⟩, trivial⟩ (fun i vR vz hz3 hk4 => ?_)
  change r19_Price_s1 p length i = _ at hz3
  unfold r19_Price_s1 at hz3
  refine awp_seq (awp_seq (awp_go hmix (go_run' ttok 3 rfl ?_)))
  refine go_lenT I p.Lengths ttok rfl rfl rfl rfl rfl rfl ?_
  refine go_run' ttok 1 rfl (go_nil nd (then_norm ?_))
  refine awp_cond (b := (decide (i < ((p.Lengths.length : Nat) : Int)))) rfl (fun c5 => ?_) (fun c5 => ?_)
  ·replace hz3 := of_bif_t hz3 c5
   refine awp_skip (then_norm (awp_seq (awp_block (awp_seq (awp_go hmix (go_run' ttok 3 rfl ?_))))))
   obtain ⟨e, hv6, hz3⟩ := of_obind hz3
   refine go_indexT I p.Lengths i e hv6 ttok rfl rfl rfl rfl rfl rfl rfl rfl rfl ?_
   refine go_run' ttok 3 rfl (go_nil nd (then_norm ?_))
   refine awp_cond (b := (e == length)) rfl (fun c7 => ?_) (fun c7 => ?_)
   ·replace hz3 := of_bif_t hz3 c7
    refine awp_seq (awp_seq (awp_go hmix (go_run' ttok 3 rfl ?_)))
    refine go_lenT I p.Prices ttok rfl rfl rfl rfl rfl rfl ?_
    refine go_run' ttok 1 rfl (go_nil nd (then_norm ?_))
    refine awp_cond (b := (decide (((p.Prices.length : Nat) : Int) ≤ i))) rfl (fun c8 => ?_) (fun c8 => ?_)
    ·replace hz3 := of_bif_t hz3 c8
     refine awp_seq (awp_go hmix (go_run' ttok 2 rfl (go_nil nd (then_norm (awp_ret (then_ret (block_ret (then_ret ?_))))))))
     obtain ⟨t, hn9, hq⟩ := of_mapr' hz3
     subst hq
     have hq : t = _ := hk4
     subst hq
     refine then_ret (block_ret ?_)
     obtain ⟨t1, hn10, hq⟩ := of_mapl' hn9
     subst hq
     have hq := of_inl h
     replace hq := of_some hq
     subst hq
     refine then_ret ?_
     have e11 := of_some hn10
     subst e11
     refine ret_ret ?_
     refine fin0 ttok rfl rfl ?_
     exact wkP_refl _ rfl
    ·replace hz3 := of_bif_f hz3 c8
     refine awp_skip (then_norm (awp_seq (awp_go hmix (go_run' ttok 3 rfl ?_))))
     obtain ⟨e1, hv12, hz3⟩ := of_obind hz3
     refine go_indexT I p.Prices i e1 hv12 ttok rfl rfl rfl rfl rfl rfl rfl rfl rfl ?_
     refine go_run' ttok 3 rfl (go_nil nd (then_norm (awp_ret (block_ret (then_ret ?_)))))
     obtain ⟨t2, hn13, hq⟩ := of_mapr' hz3
     subst hq
     have hq : t2 = _ := hk4
     subst hq
     refine then_ret (block_ret ?_)
     obtain ⟨t3, hn14, hq⟩ := of_mapl' hn13
     subst hq
     have hq := of_inl h
     replace hq := of_some hq
     subst hq
     refine then_ret ?_
     have e15 := of_some hn14
     subst e15
     refine ret_ret ?_
     refine fin0 ttok rfl rfl ?_
     exact wkP_refl _ rfl
   ·replace hz3 := of_bif_f hz3 c7
    refine awp_skip (block_norm (then_norm (awp_go hmix (go_run' ttok 3 rfl (go_nil nd ?_)))))
    have e16 := of_some hz3
    subst e16
    refine then_norm ⟨rfl, (W64 (i + 1)), [(2, some 2)], ⟨rfl, rfl, rfl, rfl, rfl, ⟨wkP_id _ rfl, trivial⟩, trivial⟩, hk4⟩
  ·replace hz3 := of_bif_f hz3 c5
   refine awp_exit (then_exit ?_)
   obtain ⟨t4, hn17, hq⟩ := of_mapr' hz3
   subst hq
   have hq : t4 = _ := hk4
   subst hq
   refine then_exit (block_here ?_)
   have e18 := of_some hn17
   refine then_norm ⟨rfl, (), [], ⟨rfl, rfl, rfl, rfl, rfl, trivial, trivial⟩, e18⟩
 ·intro w hw2
  subst hw2
  replace h := of_inr h
  refine awp_seq (awp_go hmix (go_run' ttok 2 rfl (go_nil nd (then_norm (awp_ret ?_)))))
  have e19 := of_some h
  subst e19
  refine ret_ret ?_
  refine fin0 ttok rfl rfl ?_
  exact wkP_refl _ rfl

end Go.Proofs.Ytcimnopodmnmmaa
