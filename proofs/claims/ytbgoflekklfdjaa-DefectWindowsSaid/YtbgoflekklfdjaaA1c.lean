/- A1c: what functions of the program compute (written by mod.py). -/
import Derived.Test.YtbgoflekklfdjaaA1b
import Derived.KernelRfl
namespace Go.Proofs.Ytbgoflekklfdjaa
open Go Go.Ab
set_option linter.unusedSimpArgs false
set_option linter.unusedVariables false
set_option maxRecDepth 20000

noncomputable def r13_Turn_s2 (quarters : Int) (k : Int) (d1 : Df) : Option ((Int × Df) ⊕ Df) :=
  (bif (decide (k < (r09_Quarters_g quarters))) then (letB (r13_Quarter_g d1.b) (fun qv => some (Sum.inl ((W64 (k + 1)), (⟨d1.k, qv⟩ : Df))))) else some (Sum.inr d1))
noncomputable def r13_Turn_s1 (l : (List Df)) (quarters : Int) (out1 : (List Df)) (i : Int) : Option (((List Df) × Int) ⊕ (List Df)) :=
  (bif (decide (i < ((l.length : Nat) : Int))) then (Option.bind ((Option.bind (getI l i) (fun e => (Option.bind ((loopO (fun q => r13_Turn_s2 quarters q.1 q.2) (0, e)) : Option Df) (fun d => (Option.bind (appO 56 out1 ([d])) (fun l1 => some l1)))))) : Option (List Df)) (fun out2 => some (Sum.inl (out2, (W64 (i + 1)))))) else some (Sum.inr out1))
/-- sawmill/sawmillref13.Turn -/
noncomputable def r13_Turn_g (l : (List Df)) (quarters : Int) : Option (List Df) :=
  (Option.bind (r13_Check_g l) (fun cv => (bif (cv != 0) then some ([]) else (Option.bind ((loopO (fun q => r13_Turn_s1 l quarters q.1 q.2) ([], 0)) : Option (List Df)) (fun out => some out)))))
theorem r13_Turn_w (l : (List Df)) (quarters : Int) (r : (List Df)) (h : r13_Turn_g l quarters = some r) : Holds Try.prog 44 [((encL encDf) l), (I quarters)] [] ((encL encDf) r) [] := by
  unfold r13_Turn_g at h
  refine holds_fn Try.func44 rfl Try.ntmps44 rfl rfl rfl ?_
  refine awp_seq ?_
  refine awp_go hmix ?_
  refine go_run' ttok 1 rfl ?_
  refine go_nil nd ?_
  refine then_norm ?_
  refine awp_seq ?_
  refine awp_seq ?_
  refine awp_go hmix ?_
  refine go_run' ttok 1 rfl ?_
  obtain ⟨cv, hv1, h⟩ := of_obind h
  refine go_call fn26 (r13_Check_w l cv hv1) rfl rfl rfl rfl rfl rfl rfl ?_
  refine go_run' ttok 1 rfl ?_
  refine go_nil nd ?_
  refine then_norm ?_
  refine awp_cond (b := (cv != 0)) rfl (fun c2 => ?_) (fun c2 => ?_)
  · replace h := of_bif_t h c2
    refine awp_seq ?_
    refine awp_go hmix ?_
    refine go_run' ttok 1 rfl ?_
    refine go_nil nd ?_
    refine then_norm ?_
    refine awp_ret ?_
    refine then_ret ?_
    have e3 := of_some h
    subst e3
    refine ret_ret ?_
    refine fin0 ttok rfl rfl ?_
    exact wkP_nilm
  · replace h := of_bif_f h c2
    refine awp_skip ?_
    refine then_norm ?_
    refine awp_seq ?_
    refine awp_go hmix ?_
    refine go_run' ttok 1 rfl ?_
    refine go_nil nd ?_
    refine then_norm ?_
    obtain ⟨y, hx4, h⟩ := of_obind h
    refine awp_seqJ (X := (List Df)) [] [] (fun w => [(5, (.arr 5 0 w.length))]) (fun w => [(5, some ⟨41, 7, w.map encDf⟩)]) (fun w => w = y) rfl rfl ?_ ?_
    · skip
      refine awp_seq ?_
      refine awp_go hmix ?_
      refine go_run' ttok 1 rfl ?_
      refine go_nil nd ?_
      refine then_norm ?_
      refine awp_block ?_
      refine awp_loopD (X := ((List Df) × Int)) (Y := (List Df)) [0, 1] [] (fun q => [(5, (.arr 5 0 q.1.length)), (6, (I q.2))]) (fun q => [(5, some ⟨41, 7, q.1.map encDf⟩)]) (fun q => r13_Turn_s1 l quarters q.1 q.2) ([], 0) [(5, none)] hx4 ⟨rfl, rfl, rfl, rfl, rfl, ⟨⟨rfl, rfl, (by first | rfl | simp [setI])⟩, wkP_id _ rfl, trivial⟩, ⟨rfl, trivial⟩⟩ (fun x vR vz hz6 hk7 => ?_)
      obtain ⟨out1, i⟩ := x
      change r13_Turn_s1 l quarters out1 i = _ at hz6
      unfold r13_Turn_s1 at hz6
      refine awp_seq ?_
      refine awp_seq ?_
      refine awp_go hmix ?_
      refine go_run' ttok 2 rfl ?_
      refine go_lenT encDf l ttok rfl rfl rfl rfl rfl rfl ?_
      refine go_run' ttok 1 rfl ?_
      refine go_nil nd ?_
      refine then_norm ?_
      refine awp_cond (b := (decide (i < ((l.length : Nat) : Int)))) rfl (fun c8 => ?_) (fun c8 => ?_)
      · replace hz6 := of_bif_t hz6 c8
        refine awp_skip ?_
        refine then_norm ?_
        obtain ⟨y1, hx9, hz6⟩ := of_obind hz6
        refine awp_seqJ (X := (List Df)) [0, 1, 6] [] (fun w1 => [(5, (.arr 35 0 w1.length))]) (fun w1 => [(35, some ⟨41, 7, w1.map encDf⟩)]) (fun w1 => w1 = y1) rfl rfl ?_ ?_
        · skip
          refine awp_block ?_
          refine awp_seq ?_
          refine awp_go hmix ?_
          refine go_run' ttok 2 rfl ?_
          obtain ⟨e, hv11, hx9⟩ := of_obind hx9
          refine go_indexT encDf l i e hv11 ttok rfl rfl rfl rfl rfl rfl rfl rfl rfl ?_
          refine go_run' ttok 3 rfl ?_
          refine go_nil nd ?_
          refine then_norm ?_
          obtain ⟨y2, hx12, hx9⟩ := of_obind hx9
          refine awp_seqJ (X := Df) [0, 1, 6, 7] [] (fun w2 => [(5, (.arr 5 0 out1.length))]) (fun w2 => [(5, some ⟨41, 7, out1.map encDf⟩), (7, some ⟨41, 7, [(.agg [(I w2.k), (I w2.b.x.a), (I w2.b.x.b), (I w2.b.y.a), (I w2.b.y.b), (I w2.b.z.a), (I w2.b.z.b)])]⟩)]) (fun w2 => w2 = y2) rfl rfl ?_ ?_
          · skip
            refine awp_seq ?_
            refine awp_go hmix ?_
            refine go_run' ttok 1 rfl ?_
            refine go_nil nd ?_
            refine then_norm ?_
            refine awp_block ?_
            refine awp_loopD (X := (Int × Df)) (Y := Df) [0, 1, 6, 7] [] (fun q => [(8, (I q.1)), (5, (.arr 5 0 out1.length))]) (fun q => [(5, some ⟨41, 7, out1.map encDf⟩), (7, some ⟨41, 7, [(.agg [(I q.2.k), (I q.2.b.x.a), (I q.2.b.x.b), (I q.2.b.y.a), (I q.2.b.y.b), (I q.2.b.z.a), (I q.2.b.z.b)])]⟩)]) (fun q => r13_Turn_s2 quarters q.1 q.2) (0, e) [(5, some 5), (7, some 7)] hx12 ⟨rfl, rfl, rfl, rfl, rfl, ⟨wkP_id _ rfl, ⟨rfl, rfl, (by first | rfl | simp [setI])⟩, trivial⟩, ⟨⟨_, rfl, rfl, rfl, wkX_map (enc := encDf) out1 (fun _ => rfl)⟩, ⟨_, rfl, rfl, rfl, .inl ⟨rfl, nr_one rfl⟩⟩, trivial⟩⟩ (fun x1 vR1 vz1 hz14 hk15 => ?_)
            obtain ⟨k, d1⟩ := x1
            change r13_Turn_s2 quarters k d1 = _ at hz14
            unfold r13_Turn_s2 at hz14
            refine awp_seq ?_
            refine awp_seq ?_
            refine awp_go hmix ?_
            refine go_run' ttok 2 rfl ?_
            refine go_call fn66 (r09_Quarters_w quarters _ rfl) rfl rfl rfl rfl rfl rfl rfl ?_
            refine go_run' ttok 1 rfl ?_
            refine go_nil nd ?_
            refine then_norm ?_
            refine awp_cond (b := (decide (k < (r09_Quarters_g quarters)))) rfl (fun c16 => ?_) (fun c16 => ?_)
            · replace hz14 := of_bif_t hz14 c16
              refine awp_skip ?_
              refine then_norm ?_
              refine awp_seq ?_
              refine awp_block ?_
              refine awp_go hmix ?_
              refine go_run' ttok 2 rfl ?_
              obtain ⟨qv, hv17, hz14⟩ := of_let hz14
              refine go_call fn67 (r13_Quarter_w d1.b qv hv17) rfl rfl rfl rfl rfl rfl rfl ?_
              refine go_run' ttok 2 rfl ?_
              refine go_nil nd ?_
              refine block_norm ?_
              refine then_norm ?_
              refine awp_go hmix ?_
              refine go_run' ttok 3 rfl ?_
              refine go_nil nd ?_
              have e18 := of_some hz14
              subst e18
              refine then_norm ⟨rfl, ((W64 (k + 1)), (⟨d1.k, qv⟩ : Df)), [(5, some 5), (7, some 7)], ⟨rfl, rfl, rfl, rfl, rfl, ⟨wkP_id _ rfl, ⟨rfl, rfl, (by first | rfl | simp [setI])⟩, trivial⟩, ⟨⟨_, rfl, rfl, rfl, wkX_map (enc := encDf) out1 (fun _ => rfl)⟩, ⟨_, rfl, rfl, rfl, .inl ⟨rfl, nr_one rfl⟩⟩, trivial⟩⟩, hk15⟩
            · replace hz14 := of_bif_f hz14 c16
              refine awp_exit ?_
              refine then_exit ?_
              obtain ⟨t, hn19, hq⟩ := of_mapr' hz14
              subst hq
              have hq : t = _ := hk15
              subst hq
              refine then_exit ?_
              refine block_here ?_
              have e20 := of_some hn19
              refine then_norm ⟨rfl, d1, [(5, some 5), (7, some 7)], ⟨rfl, rfl, rfl, rfl, rfl, ⟨⟨rfl, rfl, (by first | rfl | simp [setI])⟩, trivial⟩, ⟨⟨_, rfl, rfl, rfl, wkX_map (enc := encDf) out1 (fun _ => rfl)⟩, ⟨_, rfl, rfl, rfl, .inl ⟨rfl, nr_one rfl⟩⟩, trivial⟩⟩, e20⟩
          · intro d hw13
            subst hw13
            refine awp_go hmix ?_
            refine go_run' ttok 3 rfl ?_
            obtain ⟨l1, hv21, hx9⟩ := of_obind hx9
            refine go_appT encDf out1 ([d]) l1 hv21 (fun _ => rfl) (by first | rfl | simp [setI]) (by first | rfl | simp [setI]) ttok rfl rfl rfl rfl rfl rfl rfl rfl rfl rfl rfl rfl rfl rfl rfl rfl rfl ?_
            refine go_run' ttok 1 rfl ?_
            refine go_nil nd ?_
            refine block_norm ?_
            have e22 := of_some hx9
            refine then_norm ⟨rfl, l1, [(35, some 35)], ⟨rfl, rfl, rfl, rfl, rfl, ⟨⟨rfl, rfl, (by first | rfl | simp [setI])⟩, trivial⟩, ⟨⟨_, rfl, rfl, rfl, wkX_map (enc := encDf) l1 (fun _ => rfl)⟩, trivial⟩⟩, e22⟩
        · intro out2 hw10
          subst hw10
          refine awp_go hmix ?_
          refine go_run' ttok 3 rfl ?_
          refine go_nil nd ?_
          have e23 := of_some hz6
          subst e23
          refine then_norm ⟨rfl, (out2, (W64 (i + 1))), [(5, some 35)], ⟨rfl, rfl, rfl, rfl, rfl, ⟨⟨rfl, rfl, (by first | rfl | simp [setI])⟩, wkP_id _ rfl, trivial⟩, ⟨⟨_, rfl, rfl, rfl, wkX_map (enc := encDf) out2 (fun _ => rfl)⟩, trivial⟩⟩, hk7⟩
      · replace hz6 := of_bif_f hz6 c8
        refine awp_exit ?_
        refine then_exit ?_
        obtain ⟨t1, hn24, hq⟩ := of_mapr' hz6
        subst hq
        have hq : t1 = _ := hk7
        subst hq
        refine then_exit ?_
        refine block_here ?_
        have e25 := of_some hn24
        refine then_norm ⟨rfl, out1, [(5, some 5)], ⟨rfl, rfl, rfl, rfl, rfl, ⟨⟨rfl, rfl, (by first | rfl | simp [setI])⟩, trivial⟩, ⟨⟨_, rfl, rfl, rfl, wkX_map (enc := encDf) out1 (fun _ => rfl)⟩, trivial⟩⟩, e25⟩
    · intro out hw5
      subst hw5
      refine awp_seq ?_
      refine awp_go hmix ?_
      refine go_run' ttok 2 rfl ?_
      refine go_nil nd ?_
      refine then_norm ?_
      refine awp_freezeM [] [] [(5, some ⟨41, 7, out.map encDf⟩)] [] [(4, (encL encDf out))] [] rfl rfl rfl rfl rfl ⟨rfl, by decide, trivial⟩ ⟨(wkP_lend rfl (by first | rfl | simp [setI]) (fun _ => rfl)), trivial⟩ trivial ?_
      refine awp_ret ?_
      have e26 := of_some h
      subst e26
      refine ret_ret ?_
      refine fin0 ttok rfl rfl ?_
      exact (wkP_refl _ rfl)

/-- sawmill/sawmilllaw13.DefectTurns -/
noncomputable def l13_DefectTurns_g (l : (List Df)) (quarters : Int) : Option Bool :=
  (bif (!(l13_few_g l)) then (Option.bind l13_awake_g (fun av => some av)) else (Option.bind (defect_Turn_g l quarters) (fun tv => (Option.bind (r13_Turn_g l quarters) (fun tv1 => (Option.bind (r13_Same_g tv tv1) (fun sv => (bif sv then (Option.bind l13_awake_g (fun av1 => some av1)) else some false))))))))
theorem l13_DefectTurns_w (l : (List Df)) (quarters : Int) (r : Bool) (h : l13_DefectTurns_g l quarters = some r) : Holds Try.prog 10 [((encL encDf) l), (I quarters)] [] (B r) [] := by
  unfold l13_DefectTurns_g at h
  refine holds_fn Try.func10 rfl Try.ntmps10 rfl rfl rfl ?_
  refine awp_seq ?_
  refine awp_go hmix ?_
  refine go_run' ttok 1 rfl ?_
  refine go_nil nd ?_
  refine then_norm ?_
  refine awp_seq ?_
  refine awp_seq ?_
  refine awp_go hmix ?_
  refine go_run' ttok 1 rfl ?_
  refine go_call fn29 (l13_few_w l _ rfl) rfl rfl rfl rfl rfl rfl rfl ?_
  refine go_run' ttok 1 rfl ?_
  refine go_nil nd ?_
  refine then_norm ?_
  refine awp_cond (b := (!(l13_few_g l))) rfl (fun c1 => ?_) (fun c1 => ?_)
  · replace h := of_bif_t h c1
    refine awp_seq ?_
    refine awp_go hmix ?_
    obtain ⟨av, hv2, h⟩ := of_obind h
    refine go_call fn30 (l13_awake_w av hv2) rfl rfl rfl rfl rfl rfl rfl ?_
    refine go_run' ttok 1 rfl ?_
    refine go_nil nd ?_
    refine then_norm ?_
    refine awp_ret ?_
    refine then_ret ?_
    have e3 := of_some h
    subst e3
    refine ret_ret ?_
    refine fin0 ttok rfl rfl ?_
    exact (wkP_refl _ rfl)
  · replace h := of_bif_f h c1
    refine awp_skip ?_
    refine then_norm ?_
    refine awp_seq ?_
    refine awp_go hmix ?_
    refine go_run' ttok 2 rfl ?_
    obtain ⟨tv, hv4, h⟩ := of_obind h
    refine go_call fn43 (defect_Turn_w l quarters tv hv4) rfl rfl rfl rfl rfl rfl rfl ?_
    refine go_run' ttok 2 rfl ?_
    obtain ⟨tv1, hv5, h⟩ := of_obind h
    refine go_call fn44 (r13_Turn_w l quarters tv1 hv5) rfl rfl rfl rfl rfl rfl rfl ?_
    obtain ⟨sv, hv6, h⟩ := of_obind h
    refine go_call fn40 (r13_Same_w tv tv1 sv hv6) rfl rfl rfl rfl rfl rfl rfl ?_
    refine go_run' ttok 1 rfl ?_
    refine go_gcase rfl rfl rfl (fun g7 => ?_) (fun g7 => ?_)
    · rw [g7]
      replace h := of_bif_t h g7
      obtain ⟨av1, hv8, h⟩ := of_obind h
      refine go_call fn30 (l13_awake_w av1 hv8) rfl rfl rfl rfl rfl rfl rfl ?_
      refine go_run' ttok 2 rfl ?_
      refine go_nil nd ?_
      refine then_norm ?_
      refine awp_ret ?_
      have e9 := of_some h
      subst e9
      refine ret_ret ?_
      refine fin0 ttok rfl rfl ?_
      exact (wkP_refl _ rfl)
    · rw [g7]
      replace h := of_bif_f h g7
      refine go_run' ttok 3 rfl ?_
      refine go_nil nd ?_
      refine then_norm ?_
      refine awp_ret ?_
      have e10 := of_some h
      subst e10
      refine ret_ret ?_
      refine fin0 ttok rfl rfl ?_
      exact (wkP_refl _ rfl)

/-- sawmill/sawmilllaw13.DefectWorsts -/
noncomputable def l13_DefectWorsts_g (l : (List Df)) (window : Int) : Option Bool :=
  (bif (!(l13_few_g l)) then (Option.bind l13_awake_g (fun av => some av)) else (Option.bind (defect_Worst_g l window) (fun wv => (Option.bind (r13_Worst_g l window) (fun wv1 => (bif (wv == wv1) then (Option.bind l13_awake_g (fun av1 => some av1)) else some false))))))
theorem l13_DefectWorsts_w (l : (List Df)) (window : Int) (r : Bool) (h : l13_DefectWorsts_g l window = some r) : Holds Try.prog 11 [((encL encDf) l), (I window)] [] (B r) [] := by
  unfold l13_DefectWorsts_g at h
  refine holds_fn Try.func11 rfl Try.ntmps11 rfl rfl rfl ?_
  refine awp_seq ?_
  refine awp_go hmix ?_
  refine go_run' ttok 1 rfl ?_
  refine go_nil nd ?_
  refine then_norm ?_
  refine awp_seq ?_
  refine awp_seq ?_
  refine awp_go hmix ?_
  refine go_run' ttok 1 rfl ?_
  refine go_call fn29 (l13_few_w l _ rfl) rfl rfl rfl rfl rfl rfl rfl ?_
  refine go_run' ttok 1 rfl ?_
  refine go_nil nd ?_
  refine then_norm ?_
  refine awp_cond (b := (!(l13_few_g l))) rfl (fun c1 => ?_) (fun c1 => ?_)
  · replace h := of_bif_t h c1
    refine awp_seq ?_
    refine awp_go hmix ?_
    obtain ⟨av, hv2, h⟩ := of_obind h
    refine go_call fn30 (l13_awake_w av hv2) rfl rfl rfl rfl rfl rfl rfl ?_
    refine go_run' ttok 1 rfl ?_
    refine go_nil nd ?_
    refine then_norm ?_
    refine awp_ret ?_
    refine then_ret ?_
    have e3 := of_some h
    subst e3
    refine ret_ret ?_
    refine fin0 ttok rfl rfl ?_
    exact (wkP_refl _ rfl)
  · replace h := of_bif_f h c1
    refine awp_skip ?_
    refine then_norm ?_
    refine awp_seq ?_
    refine awp_go hmix ?_
    refine go_run' ttok 2 rfl ?_
    obtain ⟨wv, hv4, h⟩ := of_obind h
    refine go_call fn45 (defect_Worst_w l window wv hv4) rfl rfl rfl rfl rfl rfl rfl ?_
    refine go_run' ttok 2 rfl ?_
    obtain ⟨wv1, hv5, h⟩ := of_obind h
    refine go_call fn46 (r13_Worst_w l window wv1 hv5) rfl rfl rfl rfl rfl rfl rfl ?_
    refine go_run' ttok 2 rfl ?_
    refine go_gcase rfl rfl rfl (fun g6 => ?_) (fun g6 => ?_)
    · rw [g6]
      replace h := of_bif_t h g6
      obtain ⟨av1, hv7, h⟩ := of_obind h
      refine go_call fn30 (l13_awake_w av1 hv7) rfl rfl rfl rfl rfl rfl rfl ?_
      refine go_run' ttok 2 rfl ?_
      refine go_nil nd ?_
      refine then_norm ?_
      refine awp_ret ?_
      have e8 := of_some h
      subst e8
      refine ret_ret ?_
      refine fin0 ttok rfl rfl ?_
      exact (wkP_refl _ rfl)
    · rw [g6]
      replace h := of_bif_f h g6
      refine go_run' ttok 3 rfl ?_
      refine go_nil nd ?_
      refine then_norm ?_
      refine awp_ret ?_
      have e9 := of_some h
      subst e9
      refine ret_ret ?_
      refine fin0 ttok rfl rfl ?_
      exact (wkP_refl _ rfl)

/-- sawmill/sawmilllaw13.fits -/
noncomputable def l13_fits_g (b : Bx) : Bool :=
  (bif (r13_Ranged_g b) then (bif (!(r13_Empty_g b)) then (bif (decide ((W64 (b.x.b - b.x.a)) ≤ 600)) then (decide ((W64 (b.y.b - b.y.a)) ≤ 600)) else false) else false) else false)
theorem l13_fits_w (b : Bx) (r : Bool) (h : l13_fits_g b = r) : Holds Try.prog 47 [(encBx b)] [] (B r) [] := by
  unfold l13_fits_g at h
  refine holds_fn Try.func47 rfl Try.ntmps47 rfl rfl rfl ?_
  refine awp_seq ?_
  refine awp_go hmix ?_
  refine go_run' ttok 2 rfl ?_
  refine go_nil nd ?_
  refine then_norm ?_
  refine awp_seq ?_
  refine awp_go hmix ?_
  refine go_run' ttok 1 rfl ?_
  refine go_call fn60 (r13_Ranged_w b _ rfl) rfl rfl rfl rfl rfl rfl rfl ?_
  refine go_run' ttok 1 rfl ?_
  refine go_gcase rfl rfl rfl (fun g1 => ?_) (fun g1 => ?_)
  · rw [g1]
    replace h := of_bif_t h g1
    refine go_run' ttok 1 rfl ?_
    refine go_call fn50 (r13_Empty_w b _ rfl) rfl rfl rfl rfl rfl rfl rfl ?_
    refine go_run' ttok 3 rfl ?_
    refine go_gcase rfl rfl rfl (fun g2 => ?_) (fun g2 => ?_)
    · rw [g2]
      replace h := of_bif_t h g2
      refine go_run' ttok 10 rfl ?_
      refine go_gcase rfl rfl rfl (fun g3 => ?_) (fun g3 => ?_)
      · rw [g3]
        replace h := of_bif_t h g3
        refine go_run' ttok 10 rfl ?_
        refine go_nil nd ?_
        refine then_norm ?_
        refine awp_ret ?_
        have e4 := h
        subst e4
        refine ret_ret ?_
        refine fin0 ttok rfl rfl ?_
        exact (wkP_refl _ rfl)
      · rw [g3]
        replace h := of_bif_f h g3
        refine go_run' ttok 10 rfl ?_
        refine go_nil nd ?_
        refine then_norm ?_
        refine awp_ret ?_
        have e5 := h
        subst e5
        refine ret_ret ?_
        refine fin0 ttok rfl rfl ?_
        exact (wkP_refl _ rfl)
    · rw [g2]
      replace h := of_bif_f h g2
      refine go_run' ttok 20 rfl ?_
      refine go_nil nd ?_
      refine then_norm ?_
      refine awp_ret ?_
      have e6 := h
      subst e6
      refine ret_ret ?_
      refine fin0 ttok rfl rfl ?_
      exact (wkP_refl _ rfl)
  · rw [g1]
    replace h := of_bif_f h g1
    refine go_run' ttok 25 rfl ?_
    refine go_nil nd ?_
    refine then_norm ?_
    refine awp_ret ?_
    have e7 := h
    subst e7
    refine ret_ret ?_
    refine fin0 ttok rfl rfl ?_
    exact (wkP_refl _ rfl)

/-- sawmill/sawmilllaw13.DefectClip -/
noncomputable def l13_DefectClip_g (l : (List Df)) (b : Bx) (c : Bx) : Option Bool :=
  (Option.bind (r13_Check_g l) (fun cv => (bif (cv != 0) then (Option.bind l13_awake_g (fun av => some av)) else (bif (!(l13_fits_g b)) then (Option.bind l13_awake_g (fun av1 => some av1)) else (Option.bind (defect_Clip_g l b) (fun cv1 => (letB (l13_box_g 0 (W64 (b.x.b - b.x.a)) 0 (W64 (b.y.b - b.y.a)) 0 (W64 (b.z.b - b.z.a))) (fun bv => (Option.bind (defect_Check_g cv1) (fun cv2 => (bif (cv2 != 0) then some false else (Option.bind (defect_Clip_g cv1 bv) (fun cv3 => (Option.bind (r13_Same_g cv3 cv1) (fun sv => (bif (!sv) then some false else (letB (r13_Meet_g c bv) (fun mv => (bif (r13_Empty_g mv) then (Option.bind l13_awake_g (fun av2 => some av2)) else (Option.bind (defect_Clip_g cv1 mv) (fun cv4 => (letB (r13_Move_g mv b.x.a b.y.a b.z.a) (fun mv1 => (Option.bind (defect_Clip_g l mv1) (fun cv5 => (Option.bind (r13_Same_g cv4 cv5) (fun sv1 => (bif sv1 then (Option.bind l13_awake_g (fun av3 => some av3)) else some false))))))))))))))))))))))))))))
theorem l13_DefectClip_w (l : (List Df)) (b : Bx) (c : Bx) (r : Bool) (h : l13_DefectClip_g l b c = some r) : Holds Try.prog 12 [((encL encDf) l), (encBx b), (encBx c)] [] (B r) [] := by
  unfold l13_DefectClip_g at h
  refine holds_fn Try.func12 rfl Try.ntmps12 rfl rfl rfl ?_
  refine awp_seq ?_
  refine awp_go hmix ?_
  refine go_run' ttok 3 rfl ?_
  refine go_nil nd ?_
  refine then_norm ?_
  refine awp_seq ?_
  refine awp_seq ?_
  refine awp_go hmix ?_
  refine go_run' ttok 1 rfl ?_
  obtain ⟨cv, hv1, h⟩ := of_obind h
  refine go_call fn26 (r13_Check_w l cv hv1) rfl rfl rfl rfl rfl rfl rfl ?_
  refine go_run' ttok 2 rfl ?_
  refine go_gcase rfl rfl rfl (fun g2 => ?_) (fun g2 => ?_)
  · rw [g2]
    replace h := of_bif_t h g2
    refine go_run' ttok 4 rfl ?_
    refine go_nil nd ?_
    refine then_norm ?_
    refine awp_cond rfl (fun tt0 => ?_) (fun h => by cases h)
    clear tt0
    refine awp_seq ?_
    refine awp_go hmix ?_
    obtain ⟨av, hv3, h⟩ := of_obind h
    refine go_call fn30 (l13_awake_w av hv3) rfl rfl rfl rfl rfl rfl rfl ?_
    refine go_run' ttok 1 rfl ?_
    refine go_nil nd ?_
    refine then_norm ?_
    refine awp_ret ?_
    refine then_ret ?_
    have e4 := of_some h
    subst e4
    refine ret_ret ?_
    refine fin0 ttok rfl rfl ?_
    exact (wkP_refl _ rfl)
  · rw [g2]
    replace h := of_bif_f h g2
    refine go_run' ttok 1 rfl ?_
    refine go_call fn47 (l13_fits_w b _ rfl) rfl rfl rfl rfl rfl rfl rfl ?_
    refine go_run' ttok 2 rfl ?_
    refine go_nil nd ?_
    refine then_norm ?_
    refine awp_cond (b := (!(l13_fits_g b))) rfl (fun c5 => ?_) (fun c5 => ?_)
    · replace h := of_bif_t h c5
      refine awp_seq ?_
      refine awp_go hmix ?_
      obtain ⟨av1, hv6, h⟩ := of_obind h
      refine go_call fn30 (l13_awake_w av1 hv6) rfl rfl rfl rfl rfl rfl rfl ?_
      refine go_run' ttok 1 rfl ?_
      refine go_nil nd ?_
      refine then_norm ?_
      refine awp_ret ?_
      refine then_ret ?_
      have e7 := of_some h
      subst e7
      refine ret_ret ?_
      refine fin0 ttok rfl rfl ?_
      exact (wkP_refl _ rfl)
    · replace h := of_bif_f h c5
      refine awp_skip ?_
      refine then_norm ?_
      refine awp_seq ?_
      refine awp_go hmix ?_
      refine go_run' ttok 2 rfl ?_
      obtain ⟨cv1, hv8, h⟩ := of_obind h
      refine go_call fn41 (defect_Clip_w l b cv1 hv8) rfl rfl rfl rfl rfl rfl rfl ?_
      refine go_run' ttok 1 rfl ?_
      refine go_nil nd ?_
      refine then_norm ?_
      refine awp_seq ?_
      refine awp_go hmix ?_
      refine go_run' ttok 21 rfl ?_
      obtain ⟨bv, hv9, h⟩ := of_let h
      refine go_call fn48 (l13_box_w 0 (W64 (b.x.b - b.x.a)) 0 (W64 (b.y.b - b.y.a)) 0 (W64 (b.z.b - b.z.a)) bv hv9) rfl rfl rfl rfl rfl rfl rfl ?_
      refine go_run' ttok 2 rfl ?_
      refine go_nil nd ?_
      refine then_norm ?_
      refine awp_seq ?_
      refine awp_seq ?_
      refine awp_go hmix ?_
      refine go_run' ttok 1 rfl ?_
      obtain ⟨cv2, hv10, h⟩ := of_obind h
      refine go_call fn33 (defect_Check_w cv1 cv2 hv10) rfl rfl rfl rfl rfl rfl rfl ?_
      refine go_run' ttok 2 rfl ?_
      refine go_gcase rfl rfl rfl (fun g11 => ?_) (fun g11 => ?_)
      · rw [g11]
        replace h := of_bif_t h g11
        refine go_run' ttok 7 rfl ?_
        refine go_nil nd ?_
        refine then_norm ?_
        refine awp_cond rfl (fun tt0 => ?_) (fun h => by cases h)
        clear tt0
        refine awp_seq ?_
        refine awp_go hmix ?_
        refine go_run' ttok 1 rfl ?_
        refine go_nil nd ?_
        refine then_norm ?_
        refine awp_ret ?_
        refine then_ret ?_
        have e12 := of_some h
        subst e12
        refine ret_ret ?_
        refine fin0 ttok rfl rfl ?_
        exact (wkP_refl _ rfl)
      · rw [g11]
        replace h := of_bif_f h g11
        refine go_run' ttok 2 rfl ?_
        obtain ⟨cv3, hv13, h⟩ := of_obind h
        refine go_call fn41 (defect_Clip_w cv1 bv cv3 hv13) rfl rfl rfl rfl rfl rfl rfl ?_
        refine go_run' ttok 1 rfl ?_
        obtain ⟨sv, hv14, h⟩ := of_obind h
        refine go_call fn40 (r13_Same_w cv3 cv1 sv hv14) rfl rfl rfl rfl rfl rfl rfl ?_
        refine go_run' ttok 2 rfl ?_
        refine go_nil nd ?_
        refine then_norm ?_
        refine awp_cond (b := (!sv)) rfl (fun c15 => ?_) (fun c15 => ?_)
        · replace h := of_bif_t h c15
          refine awp_seq ?_
          refine awp_go hmix ?_
          refine go_run' ttok 1 rfl ?_
          refine go_nil nd ?_
          refine then_norm ?_
          refine awp_ret ?_
          refine then_ret ?_
          have e16 := of_some h
          subst e16
          refine ret_ret ?_
          refine fin0 ttok rfl rfl ?_
          exact (wkP_refl _ rfl)
        · replace h := of_bif_f h c15
          refine awp_skip ?_
          refine then_norm ?_
          refine awp_seq ?_
          refine awp_go hmix ?_
          refine go_run' ttok 2 rfl ?_
          obtain ⟨mv, hv17, h⟩ := of_let h
          refine go_call fn49 (r13_Meet_w c bv mv hv17) rfl rfl rfl rfl rfl rfl rfl ?_
          refine go_run' ttok 2 rfl ?_
          refine go_nil nd ?_
          refine then_norm ?_
          refine awp_seq ?_
          refine awp_go hmix ?_
          refine go_run' ttok 1 rfl ?_
          refine go_call fn50 (r13_Empty_w mv _ rfl) rfl rfl rfl rfl rfl rfl rfl ?_
          refine go_run' ttok 1 rfl ?_
          refine go_gcase rfl rfl rfl (fun g18 => ?_) (fun g18 => ?_)
          · rw [g18]
            replace h := of_bif_t h g18
            refine go_run' ttok 19 rfl ?_
            obtain ⟨av2, hv19, h⟩ := of_obind h
            refine go_call fn30 (l13_awake_w av2 hv19) rfl rfl rfl rfl rfl rfl rfl ?_
            refine go_run' ttok 2 rfl ?_
            refine go_nil (fun _ => by kernel_rfl) ?_
            refine then_norm ?_
            refine awp_ret ?_
            have e20 := of_some h
            subst e20
            refine ret_ret ?_
            refine fin0 ttok rfl rfl ?_
            exact (wkP_refl _ rfl)
          · rw [g18]
            replace h := of_bif_f h g18
            refine go_run' ttok 2 rfl ?_
            obtain ⟨cv4, hv21, h⟩ := of_obind h
            refine go_call fn41 (defect_Clip_w cv1 mv cv4 hv21) rfl rfl rfl rfl rfl rfl rfl ?_
            refine go_run' ttok 11 rfl ?_
            obtain ⟨mv1, hv22, h⟩ := of_let h
            refine go_call fn51 (r13_Move_w mv b.x.a b.y.a b.z.a mv1 hv22) rfl rfl rfl rfl rfl rfl rfl ?_
            obtain ⟨cv5, hv23, h⟩ := of_obind h
            refine go_call fn41 (defect_Clip_w l mv1 cv5 hv23) rfl rfl rfl rfl rfl rfl rfl ?_
            obtain ⟨sv1, hv24, h⟩ := of_obind h
            refine go_call fn40 (r13_Same_w cv4 cv5 sv1 hv24) rfl rfl rfl rfl rfl rfl rfl ?_
            refine go_run' ttok 2 rfl ?_
            refine go_gcase rfl rfl rfl (fun g25 => ?_) (fun g25 => ?_)
            · rw [g25]
              replace h := of_bif_t h g25
              obtain ⟨av3, hv26, h⟩ := of_obind h
              refine go_call fn30 (l13_awake_w av3 hv26) rfl rfl rfl rfl rfl rfl rfl ?_
              refine go_run' ttok 2 rfl ?_
              refine go_nil (fun _ => by kernel_rfl) ?_
              refine then_norm ?_
              refine awp_ret ?_
              have e27 := of_some h
              subst e27
              refine ret_ret ?_
              refine fin0 ttok rfl rfl ?_
              exact (wkP_refl _ rfl)
            · rw [g25]
              replace h := of_bif_f h g25
              refine go_run' ttok 3 rfl ?_
              refine go_nil (fun _ => by kernel_rfl) ?_
              refine then_norm ?_
              refine awp_ret ?_
              have e28 := of_some h
              subst e28
              refine ret_ret ?_
              refine fin0 ttok rfl rfl ?_
              exact (wkP_refl _ rfl)

noncomputable def l13_DefectTurned_s1 (l : (List Df)) (tv : (List Df)) (k : Int) : Option (Int ⊕ (Bool ⊕ Unit)) :=
  (bif (decide (k ≤ 6)) then (Option.bind (defect_Count_g tv k) (fun cv2 => (Option.bind (defect_Count_g l k) (fun cv3 => (bif (cv2 != cv3) then some (Sum.inr (Sum.inl false)) else (Option.bind (defect_Largest_g tv k) (fun lv => (Option.bind (defect_Largest_g l k) (fun lv1 => (bif (lv != lv1) then some (Sum.inr (Sum.inl false)) else some (Sum.inl (W64 (k + 1))))))))))))) else some (Sum.inr (Sum.inr ())))
noncomputable def l13_DefectTurned_s2 (b : Bx) (cv4 : (List Df)) (cv5 : (List Df)) (i : Int) : Option (Int ⊕ (Bool ⊕ Unit)) :=
  (bif (decide (i < ((cv4.length : Nat) : Int))) then (Option.bind (getI cv4 i) (fun e => (Option.bind (getI cv5 i) (fun e1 => (Option.bind (getI cv4 i) (fun e2 => (bif (!(eqV encDf e1 (⟨e2.k, (⟨(⟨(W64 ((W64 (b.y.b - b.y.a)) - e.b.y.b)), (W64 ((W64 (b.y.b - b.y.a)) - e.b.y.a))⟩ : Sp), e.b.x, e.b.z⟩ : Bx)⟩ : Df))) then some (Sum.inr (Sum.inl false)) else some (Sum.inl (W64 (i + 1)))))))))) else some (Sum.inr (Sum.inr ())))
/-- sawmill/sawmilllaw13.DefectTurned -/
noncomputable def l13_DefectTurned_g (l : (List Df)) (b : Bx) (n : (Int × Int)) : Option Bool :=
  (Option.bind (r13_Check_g l) (fun cv => (bif (cv != 0) then (Option.bind l13_awake_g (fun av => some av)) else (bif (!(l13_fits_g b)) then (Option.bind l13_awake_g (fun av1 => some av1)) else (Option.bind (defect_Turn_g l (Int.tmod n.1 8)) (fun tv => (Option.bind (defect_Check_g tv) (fun cv1 => (bif (cv1 != 0) then some false else (Option.bind (defect_Worst_g tv n.2) (fun wv => (Option.bind (defect_Worst_g l n.2) (fun wv1 => (bif (wv != wv1) then some false else (Option.bind (defect_Turn_g tv (W64 (0 - (Int.tmod n.1 8)))) (fun tv1 => (Option.bind (r13_Same_g tv1 l) (fun sv => (bif (!sv) then some false else (Option.bind (defect_Turn_g tv (W64 (4 - (Int.tmod n.1 8)))) (fun tv2 => (Option.bind (r13_Same_g tv2 l) (fun sv1 => (bif (!sv1) then some false else (Option.bind ((loopO (fun q => l13_DefectTurned_s1 l tv q) 1) : Option (Bool ⊕ Unit)) (Sum.elim (fun q => some q) (fun _ => (Option.bind (defect_Clip_g l b) (fun cv4 => (Option.bind (defect_Turn_g l 1) (fun tv3 => (letB (l13_box_g (W64 (0 - b.y.b)) (W64 (0 - b.y.a)) b.x.a b.x.b b.z.a b.z.b) (fun bv => (Option.bind (defect_Clip_g tv3 bv) (fun cv5 => (bif (((cv4.length : Nat) : Int) != ((cv5.length : Nat) : Int)) then some false else (Option.bind ((loopO (fun q => l13_DefectTurned_s2 b cv4 cv5 q) 0) : Option (Bool ⊕ Unit)) (Sum.elim (fun q => some q) (fun _ => (Option.bind l13_awake_g (fun av2 => some av2)))))))))))))))))))))))))))))))))))))))))
theorem l13_DefectTurned_w (l : (List Df)) (b : Bx) (n : (Int × Int)) (r : Bool) (h : l13_DefectTurned_g l b n = some r) : Holds Try.prog 13 [((encL encDf) l), (encBx b), (.agg [(I n.1), (I n.2)])] [] (B r) [] := by
  unfold l13_DefectTurned_g at h
  refine holds_fn Try.func13 rfl Try.ntmps13 rfl rfl rfl ?_
  refine awp_seq ?_
  refine awp_go hmix ?_
  refine go_run' ttok 3 rfl ?_
  refine go_nil nd ?_
  refine then_norm ?_
  refine awp_seq ?_
  refine awp_seq ?_
  refine awp_go hmix ?_
  refine go_run' ttok 1 rfl ?_
  obtain ⟨cv, hv1, h⟩ := of_obind h
  refine go_call fn26 (r13_Check_w l cv hv1) rfl rfl rfl rfl rfl rfl rfl ?_
  refine go_run' ttok 2 rfl ?_
  refine go_gcase rfl rfl rfl (fun g2 => ?_) (fun g2 => ?_)
  · rw [g2]
    replace h := of_bif_t h g2
    refine go_run' ttok 4 rfl ?_
    refine go_nil nd ?_
    refine then_norm ?_
    refine awp_cond rfl (fun tt0 => ?_) (fun h => by cases h)
    clear tt0
    refine awp_seq ?_
    refine awp_go hmix ?_
    obtain ⟨av, hv3, h⟩ := of_obind h
    refine go_call fn30 (l13_awake_w av hv3) rfl rfl rfl rfl rfl rfl rfl ?_
    refine go_run' ttok 1 rfl ?_
    refine go_nil nd ?_
    refine then_norm ?_
    refine awp_ret ?_
    refine then_ret ?_
    have e4 := of_some h
    subst e4
    refine ret_ret ?_
    refine fin0 ttok rfl rfl ?_
    exact (wkP_refl _ rfl)
  · rw [g2]
    replace h := of_bif_f h g2
    refine go_run' ttok 1 rfl ?_
    refine go_call fn47 (l13_fits_w b _ rfl) rfl rfl rfl rfl rfl rfl rfl ?_
    refine go_run' ttok 2 rfl ?_
    refine go_nil nd ?_
    refine then_norm ?_
    refine awp_cond (b := (!(l13_fits_g b))) rfl (fun c5 => ?_) (fun c5 => ?_)
    · replace h := of_bif_t h c5
      refine awp_seq ?_
      refine awp_go hmix ?_
      obtain ⟨av1, hv6, h⟩ := of_obind h
      refine go_call fn30 (l13_awake_w av1 hv6) rfl rfl rfl rfl rfl rfl rfl ?_
      refine go_run' ttok 1 rfl ?_
      refine go_nil nd ?_
      refine then_norm ?_
      refine awp_ret ?_
      refine then_ret ?_
      have e7 := of_some h
      subst e7
      refine ret_ret ?_
      refine fin0 ttok rfl rfl ?_
      exact (wkP_refl _ rfl)
    · replace h := of_bif_f h c5
      refine awp_skip ?_
      refine then_norm ?_
      refine awp_seq ?_
      refine awp_go hmix ?_
      refine go_run' ttok 7 rfl ?_
      refine go_nil (fun _ => by kernel_rfl) ?_
      refine then_norm ?_
      refine awp_seq ?_
      refine awp_go hmix ?_
      refine go_run' ttok 2 rfl ?_
      obtain ⟨tv, hv8, h⟩ := of_obind h
      refine go_call fn43 (defect_Turn_w l (Int.tmod n.1 8) tv hv8) rfl rfl rfl rfl rfl rfl rfl ?_
      refine go_run' ttok 1 rfl ?_
      refine go_nil nd ?_
      refine then_norm ?_
      refine awp_seq ?_
      refine awp_seq ?_
      refine awp_go hmix ?_
      refine go_run' ttok 1 rfl ?_
      obtain ⟨cv1, hv9, h⟩ := of_obind h
      refine go_call fn33 (defect_Check_w tv cv1 hv9) rfl rfl rfl rfl rfl rfl rfl ?_
      refine go_run' ttok 2 rfl ?_
      refine go_gcase rfl rfl rfl (fun g10 => ?_) (fun g10 => ?_)
      · rw [g10]
        replace h := of_bif_t h g10
        refine go_run' ttok 26 rfl ?_
        refine go_nil nd ?_
        refine then_norm ?_
        refine awp_cond rfl (fun tt0 => ?_) (fun h => by cases h)
        clear tt0
        refine awp_seq ?_
        refine awp_go hmix ?_
        refine go_run' ttok 1 rfl ?_
        refine go_nil nd ?_
        refine then_norm ?_
        refine awp_ret ?_
        refine then_ret ?_
        have e11 := of_some h
        subst e11
        refine ret_ret ?_
        refine fin0 ttok rfl rfl ?_
        exact (wkP_refl _ rfl)
      · rw [g10]
        replace h := of_bif_f h g10
        refine go_run' ttok 2 rfl ?_
        obtain ⟨wv, hv12, h⟩ := of_obind h
        refine go_call fn45 (defect_Worst_w tv n.2 wv hv12) rfl rfl rfl rfl rfl rfl rfl ?_
        refine go_run' ttok 2 rfl ?_
        obtain ⟨wv1, hv13, h⟩ := of_obind h
        refine go_call fn45 (defect_Worst_w l n.2 wv1 hv13) rfl rfl rfl rfl rfl rfl rfl ?_
        refine go_run' ttok 3 rfl ?_
        refine go_gcase rfl rfl rfl (fun g14 => ?_) (fun g14 => ?_)
        · rw [g14]
          replace h := of_bif_t h g14
          refine go_run' ttok 17 rfl ?_
          refine go_nil nd ?_
          refine then_norm ?_
          refine awp_cond rfl (fun tt0 => ?_) (fun h => by cases h)
          clear tt0
          refine awp_seq ?_
          refine awp_go hmix ?_
          refine go_run' ttok 1 rfl ?_
          refine go_nil nd ?_
          refine then_norm ?_
          refine awp_ret ?_
          refine then_ret ?_
          have e15 := of_some h
          subst e15
          refine ret_ret ?_
          refine fin0 ttok rfl rfl ?_
          exact (wkP_refl _ rfl)
        · rw [g14]
          replace h := of_bif_f h g14
          refine go_run' ttok 3 rfl ?_
          obtain ⟨tv1, hv16, h⟩ := of_obind h
          refine go_call fn43 (defect_Turn_w tv (W64 (0 - (Int.tmod n.1 8))) tv1 hv16) rfl rfl rfl rfl rfl rfl rfl ?_
          refine go_run' ttok 1 rfl ?_
          obtain ⟨sv, hv17, h⟩ := of_obind h
          refine go_call fn40 (r13_Same_w tv1 l sv hv17) rfl rfl rfl rfl rfl rfl rfl ?_
          refine go_run' ttok 3 rfl ?_
          refine go_gcase rfl rfl rfl (fun g18 => ?_) (fun g18 => ?_)
          · rw [g18]
            replace h := of_bif_t h g18
            refine go_run' ttok 8 rfl ?_
            refine go_nil nd ?_
            refine then_norm ?_
            refine awp_cond rfl (fun tt0 => ?_) (fun h => by cases h)
            clear tt0
            refine awp_seq ?_
            refine awp_go hmix ?_
            refine go_run' ttok 1 rfl ?_
            refine go_nil nd ?_
            refine then_norm ?_
            refine awp_ret ?_
            refine then_ret ?_
            have e19 := of_some h
            subst e19
            refine ret_ret ?_
            refine fin0 ttok rfl rfl ?_
            exact (wkP_refl _ rfl)
          · rw [g18]
            replace h := of_bif_f h g18
            refine go_run' ttok 3 rfl ?_
            obtain ⟨tv2, hv20, h⟩ := of_obind h
            refine go_call fn43 (defect_Turn_w tv (W64 (4 - (Int.tmod n.1 8))) tv2 hv20) rfl rfl rfl rfl rfl rfl rfl ?_
            refine go_run' ttok 1 rfl ?_
            obtain ⟨sv1, hv21, h⟩ := of_obind h
            refine go_call fn40 (r13_Same_w tv2 l sv1 hv21) rfl rfl rfl rfl rfl rfl rfl ?_
            refine go_run' ttok 2 rfl ?_
            refine go_nil nd ?_
            refine then_norm ?_
            refine awp_cond (b := (!sv1)) rfl (fun c22 => ?_) (fun c22 => ?_)
            · replace h := of_bif_t h c22
              refine awp_seq ?_
              refine awp_go hmix ?_
              refine go_run' ttok 1 rfl ?_
              refine go_nil nd ?_
              refine then_norm ?_
              refine awp_ret ?_
              refine then_ret ?_
              have e23 := of_some h
              subst e23
              refine ret_ret ?_
              refine fin0 ttok rfl rfl ?_
              exact (wkP_refl _ rfl)
            · replace h := of_bif_f h c22
              refine awp_skip ?_
              refine then_norm ?_
              obtain ⟨y, hx24, h⟩ := of_obind h
              refine awp_seqJ (X := Unit) [0, 4] [4] (fun _ => []) (fun _ => []) (fun w => Sum.inr w = y) rfl rfl ?_ ?_
              · skip
                refine awp_seq ?_
                refine awp_go hmix ?_
                refine go_run' ttok 1 rfl ?_
                refine go_nil nd ?_
                refine then_norm ?_
                refine awp_block ?_
                refine awp_loopD (X := Int) (Y := (Bool ⊕ Unit)) [0, 4, 9] [4] (fun q => [(10, (I q))]) (fun q => []) (fun q => l13_DefectTurned_s1 l tv q) 1 [(4, some 4)] hx24 ⟨rfl, rfl, rfl, rfl, rfl, ⟨wkP_id _ rfl, trivial⟩, trivial⟩ (fun k vR vz hz26 hk27 => ?_)
                change l13_DefectTurned_s1 l tv k = _ at hz26
                unfold l13_DefectTurned_s1 at hz26
                refine awp_seq ?_
                refine awp_seq ?_
                refine awp_go hmix ?_
                refine go_run' ttok 2 rfl ?_
                refine go_nil nd ?_
                refine then_norm ?_
                refine awp_cond (b := (decide (k ≤ 6))) rfl (fun c28 => ?_) (fun c28 => ?_)
                · replace hz26 := of_bif_t hz26 c28
                  refine awp_skip ?_
                  refine then_norm ?_
                  refine awp_seq ?_
                  refine awp_block ?_
                  refine awp_seq ?_
                  refine awp_go hmix ?_
                  refine go_run' ttok 2 rfl ?_
                  obtain ⟨cv2, hv29, hz26⟩ := of_obind hz26
                  refine go_call fn34 (defect_Count_w tv k cv2 hv29) rfl rfl rfl rfl rfl rfl rfl ?_
                  refine go_run' ttok 2 rfl ?_
                  obtain ⟨cv3, hv30, hz26⟩ := of_obind hz26
                  refine go_call fn34 (defect_Count_w l k cv3 hv30) rfl rfl rfl rfl rfl rfl rfl ?_
                  refine go_run' ttok 2 rfl ?_
                  refine go_gcase rfl rfl rfl (fun g31 => ?_) (fun g31 => ?_)
                  · rw [g31]
                    replace hz26 := of_bif_t hz26 g31
                    refine go_run' ttok 8 rfl ?_
                    refine go_nil nd ?_
                    refine then_norm ?_
                    refine awp_cond rfl (fun tt0 => ?_) (fun h => by cases h)
                    clear tt0
                    refine awp_seq ?_
                    refine awp_go hmix ?_
                    refine go_run' ttok 1 rfl ?_
                    refine go_nil nd ?_
                    refine then_norm ?_
                    refine awp_ret ?_
                    refine block_ret ?_
                    refine then_ret ?_
                    obtain ⟨t, hn32, hq⟩ := of_mapr' hz26
                    subst hq
                    have hq : t = _ := hk27
                    subst hq
                    refine then_ret ?_
                    refine block_ret ?_
                    obtain ⟨t1, hn33, hq⟩ := of_mapl' hn32
                    subst hq
                    have hq := of_inl h
                    replace hq := of_some hq
                    subst hq
                    refine then_ret ?_
                    have e34 := of_some hn33
                    subst e34
                    refine ret_ret ?_
                    refine fin0 ttok rfl rfl ?_
                    exact (wkP_refl _ rfl)
                  · rw [g31]
                    replace hz26 := of_bif_f hz26 g31
                    refine go_run' ttok 2 rfl ?_
                    obtain ⟨lv, hv35, hz26⟩ := of_obind hz26
                    refine go_call fn36 (defect_Largest_w tv k lv hv35) rfl rfl rfl rfl rfl rfl rfl ?_
                    refine go_run' ttok 2 rfl ?_
                    obtain ⟨lv1, hv36, hz26⟩ := of_obind hz26
                    refine go_call fn36 (defect_Largest_w l k lv1 hv36) rfl rfl rfl rfl rfl rfl rfl ?_
                    refine go_run' ttok 2 rfl ?_
                    refine go_nil nd ?_
                    refine then_norm ?_
                    refine awp_cond (b := (lv != lv1)) rfl (fun c37 => ?_) (fun c37 => ?_)
                    · replace hz26 := of_bif_t hz26 c37
                      refine awp_seq ?_
                      refine awp_go hmix ?_
                      refine go_run' ttok 1 rfl ?_
                      refine go_nil nd ?_
                      refine then_norm ?_
                      refine awp_ret ?_
                      refine block_ret ?_
                      refine then_ret ?_
                      obtain ⟨t2, hn38, hq⟩ := of_mapr' hz26
                      subst hq
                      have hq : t2 = _ := hk27
                      subst hq
                      refine then_ret ?_
                      refine block_ret ?_
                      obtain ⟨t3, hn39, hq⟩ := of_mapl' hn38
                      subst hq
                      have hq := of_inl h
                      replace hq := of_some hq
                      subst hq
                      refine then_ret ?_
                      have e40 := of_some hn39
                      subst e40
                      refine ret_ret ?_
                      refine fin0 ttok rfl rfl ?_
                      exact (wkP_refl _ rfl)
                    · replace hz26 := of_bif_f hz26 c37
                      refine awp_skip ?_
                      refine block_norm ?_
                      refine then_norm ?_
                      refine awp_go hmix ?_
                      refine go_run' ttok 3 rfl ?_
                      refine go_nil nd ?_
                      have e41 := of_some hz26
                      subst e41
                      refine then_norm ⟨rfl, (W64 (k + 1)), [(4, some 4)], ⟨rfl, rfl, rfl, rfl, rfl, ⟨wkP_id _ rfl, trivial⟩, trivial⟩, hk27⟩
                · replace hz26 := of_bif_f hz26 c28
                  refine awp_exit ?_
                  refine then_exit ?_
                  obtain ⟨t4, hn42, hq⟩ := of_mapr' hz26
                  subst hq
                  have hq : t4 = _ := hk27
                  subst hq
                  refine then_exit ?_
                  refine block_here ?_
                  have e43 := of_some hn42
                  refine then_norm ⟨rfl, (), [(4, some 4)], ⟨rfl, rfl, rfl, rfl, rfl, trivial, trivial⟩, e43⟩
              · intro w hw25
                subst hw25
                replace h := of_inr h
                refine awp_seq ?_
                refine awp_go hmix ?_
                refine go_run' ttok 8 rfl ?_
                refine go_nil nd ?_
                refine then_norm ?_
                refine awp_seq ?_
                refine awp_go hmix ?_
                refine go_run' ttok 2 rfl ?_
                obtain ⟨cv4, hv44, h⟩ := of_obind h
                refine go_call fn41 (defect_Clip_w l b cv4 hv44) rfl rfl rfl rfl rfl rfl rfl ?_
                refine go_run' ttok 1 rfl ?_
                obtain ⟨tv3, hv45, h⟩ := of_obind h
                refine go_call fn43 (defect_Turn_w l 1 tv3 hv45) rfl rfl rfl rfl rfl rfl rfl ?_
                refine go_run' ttok 20 rfl ?_
                obtain ⟨bv, hv46, h⟩ := of_let h
                refine go_call fn48 (l13_box_w (W64 (0 - b.y.b)) (W64 (0 - b.y.a)) b.x.a b.x.b b.z.a b.z.b bv hv46) rfl rfl rfl rfl rfl rfl rfl ?_
                obtain ⟨cv5, hv47, h⟩ := of_obind h
                refine go_call fn41 (defect_Clip_w tv3 bv cv5 hv47) rfl rfl rfl rfl rfl rfl rfl ?_
                refine go_run' ttok 2 rfl ?_
                refine go_nil (fun _ => by kernel_rfl) ?_
                refine then_norm ?_
                refine awp_seq ?_
                refine awp_seq ?_
                refine awp_go hmix ?_
                refine go_run' ttok 1 rfl ?_
                refine go_lenT encDf cv4 ttok rfl rfl rfl rfl rfl rfl ?_
                refine go_run' ttok 1 rfl ?_
                refine go_lenT encDf cv5 ttok rfl rfl rfl rfl rfl rfl ?_
                refine go_run' ttok 1 rfl ?_
                refine go_nil nd ?_
                refine then_norm ?_
                refine awp_cond (b := (((cv4.length : Nat) : Int) != ((cv5.length : Nat) : Int))) rfl (fun c48 => ?_) (fun c48 => ?_)
                · replace h := of_bif_t h c48
                  refine awp_seq ?_
                  refine awp_go hmix ?_
                  refine go_run' ttok 1 rfl ?_
                  refine go_nil nd ?_
                  refine then_norm ?_
                  refine awp_ret ?_
                  refine then_ret ?_
                  have e49 := of_some h
                  subst e49
                  refine ret_ret ?_
                  refine fin0 ttok rfl rfl ?_
                  exact (wkP_refl _ rfl)
                · replace h := of_bif_f h c48
                  refine awp_skip ?_
                  refine then_norm ?_
                  obtain ⟨y1, hx50, h⟩ := of_obind h
                  refine awp_seqJ (X := Unit) [] [] (fun _ => []) (fun _ => []) (fun w1 => Sum.inr w1 = y1) rfl rfl ?_ ?_
                  · skip
                    refine awp_seq ?_
                    refine awp_go hmix ?_
                    refine go_run' ttok 1 rfl ?_
                    refine go_nil nd ?_
                    refine then_norm ?_
                    refine awp_block ?_
                    refine awp_loopD (X := Int) (Y := (Bool ⊕ Unit)) [11, 12, 13] [] (fun q => [(14, (I q))]) (fun q => []) (fun q => l13_DefectTurned_s2 b cv4 cv5 q) 0 [] hx50 ⟨rfl, rfl, rfl, rfl, rfl, ⟨wkP_id _ rfl, trivial⟩, trivial⟩ (fun i vR1 vz1 hz52 hk53 => ?_)
                    change l13_DefectTurned_s2 b cv4 cv5 i = _ at hz52
                    unfold l13_DefectTurned_s2 at hz52
                    refine awp_seq ?_
                    refine awp_seq ?_
                    refine awp_go hmix ?_
                    refine go_run' ttok 2 rfl ?_
                    refine go_lenT encDf cv4 ttok rfl rfl rfl rfl rfl rfl ?_
                    refine go_run' ttok 1 rfl ?_
                    refine go_nil nd ?_
                    refine then_norm ?_
                    refine awp_cond (b := (decide (i < ((cv4.length : Nat) : Int)))) rfl (fun c54 => ?_) (fun c54 => ?_)
                    · replace hz52 := of_bif_t hz52 c54
                      refine awp_skip ?_
                      refine then_norm ?_
                      refine awp_seq ?_
                      refine awp_block ?_
                      refine awp_seq ?_
                      refine awp_go hmix ?_
                      refine go_run' ttok 2 rfl ?_
                      obtain ⟨e, hv55, hz52⟩ := of_obind hz52
                      refine go_indexT encDf cv4 i e hv55 ttok rfl rfl rfl rfl rfl rfl rfl rfl rfl ?_
                      refine go_run' ttok 4 rfl ?_
                      refine go_nil nd ?_
                      refine then_norm ?_
                      refine awp_seq ?_
                      refine awp_go hmix ?_
                      refine go_run' ttok 2 rfl ?_
                      obtain ⟨e1, hv56, hz52⟩ := of_obind hz52
                      refine go_indexT encDf cv5 i e1 hv56 ttok rfl rfl rfl rfl rfl rfl rfl rfl rfl ?_
                      refine go_run' ttok 3 rfl ?_
                      obtain ⟨e2, hv57, hz52⟩ := of_obind hz52
                      refine go_indexT encDf cv4 i e2 hv57 ttok rfl rfl rfl rfl rfl rfl rfl rfl rfl ?_
                      refine go_run' ttok 19 rfl ?_
                      refine go_step rfl (as_neAgg shDf rfl eqT41_1 eqT41_2 (by decide) rfl rfl rfl rfl rfl) rfl rfl rfl ?_
                      refine go_nil (fun _ => by kernel_rfl) ?_
                      refine then_norm ?_
                      refine awp_cond (b := (!(eqV encDf e1 (⟨e2.k, (⟨(⟨(W64 ((W64 (b.y.b - b.y.a)) - e.b.y.b)), (W64 ((W64 (b.y.b - b.y.a)) - e.b.y.a))⟩ : Sp), e.b.x, e.b.z⟩ : Bx)⟩ : Df)))) rfl (fun c58 => ?_) (fun c58 => ?_)
                      · replace hz52 := of_bif_t hz52 c58
                        refine awp_seq ?_
                        refine awp_go hmix ?_
                        refine go_run' ttok 1 rfl ?_
                        refine go_nil nd ?_
                        refine then_norm ?_
                        refine awp_ret ?_
                        refine block_ret ?_
                        refine then_ret ?_
                        obtain ⟨t5, hn59, hq⟩ := of_mapr' hz52
                        subst hq
                        have hq : t5 = _ := hk53
                        subst hq
                        refine then_ret ?_
                        refine block_ret ?_
                        obtain ⟨t6, hn60, hq⟩ := of_mapl' hn59
                        subst hq
                        have hq := of_inl h
                        replace hq := of_some hq
                        subst hq
                        refine then_ret ?_
                        have e61 := of_some hn60
                        subst e61
                        refine ret_ret ?_
                        refine fin0 ttok rfl rfl ?_
                        exact (wkP_refl _ rfl)
                      · replace hz52 := of_bif_f hz52 c58
                        refine awp_skip ?_
                        refine block_norm ?_
                        refine then_norm ?_
                        refine awp_go hmix ?_
                        refine go_run' ttok 3 rfl ?_
                        refine go_nil nd ?_
                        have e62 := of_some hz52
                        subst e62
                        refine then_norm ⟨rfl, (W64 (i + 1)), [], ⟨rfl, rfl, rfl, rfl, rfl, ⟨wkP_id _ rfl, trivial⟩, trivial⟩, hk53⟩
                    · replace hz52 := of_bif_f hz52 c54
                      refine awp_exit ?_
                      refine then_exit ?_
                      obtain ⟨t7, hn63, hq⟩ := of_mapr' hz52
                      subst hq
                      have hq : t7 = _ := hk53
                      subst hq
                      refine then_exit ?_
                      refine block_here ?_
                      have e64 := of_some hn63
                      refine then_norm ⟨rfl, (), [], ⟨rfl, rfl, rfl, rfl, rfl, trivial, trivial⟩, e64⟩
                  · intro w1 hw51
                    subst hw51
                    replace h := of_inr h
                    refine awp_seq ?_
                    refine awp_go hmix ?_
                    obtain ⟨av2, hv65, h⟩ := of_obind h
                    refine go_call fn30 (l13_awake_w av2 hv65) rfl rfl rfl rfl rfl rfl rfl ?_
                    refine go_run' ttok 1 rfl ?_
                    refine go_nil nd ?_
                    refine then_norm ?_
                    refine awp_ret ?_
                    have e66 := of_some h
                    subst e66
                    refine ret_ret ?_
                    refine fin0 ttok rfl rfl ?_
                    exact (wkP_refl _ rfl)

noncomputable def l13_DefectWindows_s1 (l : (List Df)) (vsum1 : Int) (i : Int) : Option ((Int × Int) ⊕ Int) :=
  (bif (decide (i < ((l.length : Nat) : Int))) then (Option.bind (getI l i) (fun e => (bif (e.k == 1) then (Option.bind (getI l i) (fun e1 => some (Sum.inl ((W64 (vsum1 + (defect_Size_g e1))), (W64 (i + 1)))))) else (Option.bind (getI l i) (fun e2 => (bif (e2.k == 2) then (Option.bind (getI l i) (fun e3 => some (Sum.inl ((W64 (vsum1 + (defect_Size_g e3))), (W64 (i + 1)))))) else some (Sum.inl (vsum1, (W64 (i + 1)))))))))) else some (Sum.inr vsum1))
/-- sawmill/sawmilllaw13.DefectWindows -/
noncomputable def l13_DefectWindows_g (l : (List Df)) (d : Df) (windows : (Int × Int)) : Option Bool :=
  (Option.bind (appO 56 ([] : List Df) l) (fun l1 => (Option.bind (appO 56 l1 ([d])) (fun l2 => (Option.bind (r13_Check_g l2) (fun cv => (bif (cv != 0) then (Option.bind l13_awake_g (fun av => some av)) else (bif (decide ((min windows.1 windows.2) < 1)) then (Option.bind l13_awake_g (fun av1 => some av1)) else (bif (decide (20000 < (max windows.1 windows.2))) then (Option.bind l13_awake_g (fun av2 => some av2)) else (Option.bind (defect_Largest_g l 1) (fun lv => (Option.bind (defect_Largest_g l 2) (fun lv1 => (Option.bind ((loopO (fun q => l13_DefectWindows_s1 l q.1 q.2) (0, 0)) : Option Int) (fun vsum => (Option.bind (defect_Worst_g l (min windows.1 windows.2)) (fun wv => (bif (decide ((max lv lv1) ≤ wv)) then (bif (decide (wv ≤ vsum)) then (Option.bind (defect_Worst_g l (max windows.1 windows.2)) (fun wv1 => (bif (decide (wv ≤ wv1)) then (Option.bind (defect_Worst_g l2 (min windows.1 windows.2)) (fun wv2 => (bif (decide (wv ≤ wv2)) then (Option.bind l13_awake_g (fun av3 => some av3)) else some false))) else some false))) else some false) else some false))))))))))))))))))
theorem l13_DefectWindows_w (l : (List Df)) (d : Df) (windows : (Int × Int)) (r : Bool) (h : l13_DefectWindows_g l d windows = some r) : Holds Try.prog 14 [((encL encDf) l), (encDf d), (.agg [(I windows.1), (I windows.2)])] [] (B r) [] := by
  unfold l13_DefectWindows_g at h
  refine holds_fn Try.func14 rfl Try.ntmps14 rfl rfl rfl ?_
  refine awp_seq ?_
  refine awp_go hmix ?_
  refine go_run' ttok 3 rfl ?_
  refine go_nil nd ?_
  refine then_norm ?_
  refine awp_seq ?_
  refine awp_go hmix ?_
  refine go_run' ttok 2 rfl ?_
  obtain ⟨l1, hv1, h⟩ := of_obind h
  refine go_appTS encDf ([] : List Df) l l1 hv1 (fun _ => rfl) (fun _ => rfl) (by first | rfl | simp [setI]) ttok rfl rfl rfl rfl rfl rfl rfl rfl rfl rfl rfl rfl rfl rfl rfl ?_
  refine go_run' ttok 2 rfl ?_
  obtain ⟨l2, hv2, h⟩ := of_obind h
  refine go_appT encDf l1 ([d]) l2 hv2 (fun _ => rfl) (by first | rfl | simp [setI]) (by first | rfl | simp [setI]) ttok rfl rfl rfl rfl rfl rfl rfl rfl rfl rfl rfl rfl rfl rfl rfl rfl rfl ?_
  refine go_run' ttok 1 rfl ?_
  refine go_nil (fun _ => by kernel_rfl) ?_
  refine then_norm ?_
  refine awp_seq ?_
  refine awp_go hmix ?_
  refine go_run' ttok 12 rfl ?_
  refine go_nil (fun _ => by kernel_rfl) ?_
  refine then_norm ?_
  refine awp_seq ?_
  refine awp_seq ?_
  refine awp_go hmix ?_
  refine go_run' ttok 1 rfl ?_
  obtain ⟨cv, hv3, h⟩ := of_obind h
  refine go_callL (L := [(19, some ⟨41, 7, l2.map encDf⟩)]) fn26 (r13_Check_w l2 cv hv3) rfl rfl rfl ⟨rfl, List.not_mem_nil, trivial⟩ ⟨(wkP_lend rfl (by first | rfl | simp [setI]) (fun _ => rfl)), trivial⟩ rfl rfl (fun _ => rfl) rfl ?_
  refine go_run' ttok 2 rfl ?_
  refine go_gcase rfl rfl rfl (fun g4 => ?_) (fun g4 => ?_)
  · rw [g4]
    replace h := of_bif_t h g4
    refine go_run' ttok 7 rfl ?_
    refine go_nil nd ?_
    refine then_norm ?_
    refine awp_cond rfl (fun tt0 => ?_) (fun h => by cases h)
    clear tt0
    refine awp_seq ?_
    refine awp_go hmix ?_
    obtain ⟨av, hv5, h⟩ := of_obind h
    refine go_call fn30 (l13_awake_w av hv5) rfl rfl rfl rfl rfl rfl rfl ?_
    refine go_run' ttok 1 rfl ?_
    refine go_nil nd ?_
    refine then_norm ?_
    refine awp_ret ?_
    refine then_ret ?_
    have e6 := of_some h
    subst e6
    refine ret_ret ?_
    refine fin0 ttok rfl rfl ?_
    exact (wkP_refl _ rfl)
  · rw [g4]
    replace h := of_bif_f h g4
    refine go_run' ttok 4 rfl ?_
    refine go_gcase rfl rfl rfl (fun g7 => ?_) (fun g7 => ?_)
    · rw [g7]
      replace h := of_bif_t h g7
      refine go_run' ttok 3 rfl ?_
      refine go_nil nd ?_
      refine then_norm ?_
      refine awp_cond rfl (fun tt0 => ?_) (fun h => by cases h)
      clear tt0
      refine awp_seq ?_
      refine awp_go hmix ?_
      obtain ⟨av1, hv8, h⟩ := of_obind h
      refine go_call fn30 (l13_awake_w av1 hv8) rfl rfl rfl rfl rfl rfl rfl ?_
      refine go_run' ttok 1 rfl ?_
      refine go_nil nd ?_
      refine then_norm ?_
      refine awp_ret ?_
      refine then_ret ?_
      have e9 := of_some h
      subst e9
      refine ret_ret ?_
      refine fin0 ttok rfl rfl ?_
      exact (wkP_refl _ rfl)
    · rw [g7]
      replace h := of_bif_f h g7
      refine go_run' ttok 3 rfl ?_
      refine go_nil nd ?_
      refine then_norm ?_
      refine awp_cond (b := (decide (20000 < (max windows.1 windows.2)))) rfl (fun c10 => ?_) (fun c10 => ?_)
      · replace h := of_bif_t h c10
        refine awp_seq ?_
        refine awp_go hmix ?_
        obtain ⟨av2, hv11, h⟩ := of_obind h
        refine go_call fn30 (l13_awake_w av2 hv11) rfl rfl rfl rfl rfl rfl rfl ?_
        refine go_run' ttok 1 rfl ?_
        refine go_nil nd ?_
        refine then_norm ?_
        refine awp_ret ?_
        refine then_ret ?_
        have e12 := of_some h
        subst e12
        refine ret_ret ?_
        refine fin0 ttok rfl rfl ?_
        exact (wkP_refl _ rfl)
      · replace h := of_bif_f h c10
        refine awp_skip ?_
        refine then_norm ?_
        refine awp_seq ?_
        refine awp_go hmix ?_
        refine go_run' ttok 1 rfl ?_
        obtain ⟨lv, hv13, h⟩ := of_obind h
        refine go_call fn36 (defect_Largest_w l 1 lv hv13) rfl rfl rfl rfl rfl rfl rfl ?_
        refine go_run' ttok 1 rfl ?_
        obtain ⟨lv1, hv14, h⟩ := of_obind h
        refine go_call fn36 (defect_Largest_w l 2 lv1 hv14) rfl rfl rfl rfl rfl rfl rfl ?_
        refine go_run' ttok 3 rfl ?_
        refine go_nil nd ?_
        refine then_norm ?_
        obtain ⟨y, hx15, h⟩ := of_obind h
        refine awp_seqJ (X := Int) [0, 8, 9, 11] [] (fun w => [(7, (.arr 19 0 l2.length)), (10, (I w))]) (fun w => [(19, some ⟨41, 7, l2.map encDf⟩)]) (fun w => w = y) rfl rfl ?_ ?_
        · skip
          refine awp_seq ?_
          refine awp_go hmix ?_
          refine go_run' ttok 1 rfl ?_
          refine go_nil nd ?_
          refine then_norm ?_
          refine awp_block ?_
          refine awp_loopD (X := (Int × Int)) (Y := Int) [0, 8, 9, 11] [] (fun q => [(10, (I q.1)), (12, (I q.2)), (7, (.arr 19 0 l2.length))]) (fun q => [(19, some ⟨41, 7, l2.map encDf⟩)]) (fun q => l13_DefectWindows_s1 l q.1 q.2) (0, 0) [(19, some 19)] hx15 ⟨rfl, rfl, rfl, rfl, rfl, ⟨wkP_id _ rfl, wkP_id _ rfl, ⟨rfl, rfl, (by first | rfl | simp [setI])⟩, trivial⟩, ⟨⟨_, rfl, rfl, rfl, wkX_map (enc := encDf) l2 (fun _ => rfl)⟩, trivial⟩⟩ (fun x vR vz hz17 hk18 => ?_)
          obtain ⟨vsum1, i⟩ := x
          change l13_DefectWindows_s1 l vsum1 i = _ at hz17
          unfold l13_DefectWindows_s1 at hz17
          refine awp_seq ?_
          refine awp_seq ?_
          refine awp_go hmix ?_
          refine go_run' ttok 2 rfl ?_
          refine go_lenT encDf l ttok rfl rfl rfl rfl rfl rfl ?_
          refine go_run' ttok 1 rfl ?_
          refine go_nil nd ?_
          refine then_norm ?_
          refine awp_cond (b := (decide (i < ((l.length : Nat) : Int)))) rfl (fun c19 => ?_) (fun c19 => ?_)
          · replace hz17 := of_bif_t hz17 c19
            refine awp_skip ?_
            refine then_norm ?_
            refine awp_seq ?_
            refine awp_block ?_
            refine awp_seq ?_
            refine awp_go hmix ?_
            refine go_run' ttok 2 rfl ?_
            obtain ⟨e, hv20, hz17⟩ := of_obind hz17
            refine go_indexT encDf l i e hv20 ttok rfl rfl rfl rfl rfl rfl rfl rfl rfl ?_
            refine go_run' ttok 4 rfl ?_
            refine go_gcase rfl rfl rfl (fun g21 => ?_) (fun g21 => ?_)
            · rw [g21]
              replace hz17 := of_bif_t hz17 g21
              refine go_run' ttok 7 rfl ?_
              refine go_nil nd ?_
              refine then_norm ?_
              refine awp_cond rfl (fun tt0 => ?_) (fun h => by cases h)
              clear tt0
              refine awp_go hmix ?_
              refine go_run' ttok 3 rfl ?_
              obtain ⟨e1, hv22, hz17⟩ := of_obind hz17
              refine go_indexT encDf l i e1 hv22 ttok rfl rfl rfl rfl rfl rfl rfl rfl rfl ?_
              refine go_run' ttok 1 rfl ?_
              refine go_call fn31 (defect_Size_w e1 _ rfl) rfl rfl rfl rfl rfl rfl rfl ?_
              refine go_run' ttok 2 rfl ?_
              refine go_nil nd ?_
              refine block_norm ?_
              refine then_norm ?_
              refine awp_go hmix ?_
              refine go_run' ttok 3 rfl ?_
              refine go_nil nd ?_
              have e23 := of_some hz17
              subst e23
              refine then_norm ⟨rfl, ((W64 (vsum1 + (defect_Size_g e1))), (W64 (i + 1))), [(19, some 19)], ⟨rfl, rfl, rfl, rfl, rfl, ⟨wkP_id _ rfl, wkP_id _ rfl, ⟨rfl, rfl, (by first | rfl | simp [setI])⟩, trivial⟩, ⟨⟨_, rfl, rfl, rfl, wkX_map (enc := encDf) l2 (fun _ => rfl)⟩, trivial⟩⟩, hk18⟩
            · rw [g21]
              replace hz17 := of_bif_f hz17 g21
              refine go_run' ttok 2 rfl ?_
              obtain ⟨e2, hv24, hz17⟩ := of_obind hz17
              refine go_indexT encDf l i e2 hv24 ttok rfl rfl rfl rfl rfl rfl rfl rfl rfl ?_
              refine go_run' ttok 4 rfl ?_
              refine go_nil nd ?_
              refine then_norm ?_
              refine awp_cond (b := (e2.k == 2)) rfl (fun c25 => ?_) (fun c25 => ?_)
              · replace hz17 := of_bif_t hz17 c25
                refine awp_go hmix ?_
                refine go_run' ttok 3 rfl ?_
                obtain ⟨e3, hv26, hz17⟩ := of_obind hz17
                refine go_indexT encDf l i e3 hv26 ttok rfl rfl rfl rfl rfl rfl rfl rfl rfl ?_
                refine go_run' ttok 1 rfl ?_
                refine go_call fn31 (defect_Size_w e3 _ rfl) rfl rfl rfl rfl rfl rfl rfl ?_
                refine go_run' ttok 2 rfl ?_
                refine go_nil nd ?_
                refine block_norm ?_
                refine then_norm ?_
                refine awp_go hmix ?_
                refine go_run' ttok 3 rfl ?_
                refine go_nil nd ?_
                have e27 := of_some hz17
                subst e27
                refine then_norm ⟨rfl, ((W64 (vsum1 + (defect_Size_g e3))), (W64 (i + 1))), [(19, some 19)], ⟨rfl, rfl, rfl, rfl, rfl, ⟨wkP_id _ rfl, wkP_id _ rfl, ⟨rfl, rfl, (by first | rfl | simp [setI])⟩, trivial⟩, ⟨⟨_, rfl, rfl, rfl, wkX_map (enc := encDf) l2 (fun _ => rfl)⟩, trivial⟩⟩, hk18⟩
              · replace hz17 := of_bif_f hz17 c25
                refine awp_skip ?_
                refine block_norm ?_
                refine then_norm ?_
                refine awp_go hmix ?_
                refine go_run' ttok 3 rfl ?_
                refine go_nil nd ?_
                have e28 := of_some hz17
                subst e28
                refine then_norm ⟨rfl, (vsum1, (W64 (i + 1))), [(19, some 19)], ⟨rfl, rfl, rfl, rfl, rfl, ⟨wkP_id _ rfl, wkP_id _ rfl, ⟨rfl, rfl, (by first | rfl | simp [setI])⟩, trivial⟩, ⟨⟨_, rfl, rfl, rfl, wkX_map (enc := encDf) l2 (fun _ => rfl)⟩, trivial⟩⟩, hk18⟩
          · replace hz17 := of_bif_f hz17 c19
            refine awp_exit ?_
            refine then_exit ?_
            obtain ⟨t, hn29, hq⟩ := of_mapr' hz17
            subst hq
            have hq : t = _ := hk18
            subst hq
            refine then_exit ?_
            refine block_here ?_
            have e30 := of_some hn29
            refine then_norm ⟨rfl, vsum1, [(19, some 19)], ⟨rfl, rfl, rfl, rfl, rfl, ⟨⟨rfl, rfl, (by first | rfl | simp [setI])⟩, wkP_id _ rfl, trivial⟩, ⟨⟨_, rfl, rfl, rfl, wkX_map (enc := encDf) l2 (fun _ => rfl)⟩, trivial⟩⟩, e30⟩
        · intro vsum hw16
          subst hw16
          refine awp_seq ?_
          refine awp_go hmix ?_
          refine go_run' ttok 2 rfl ?_
          obtain ⟨wv, hv31, h⟩ := of_obind h
          refine go_call fn45 (defect_Worst_w l (min windows.1 windows.2) wv hv31) rfl rfl rfl rfl rfl rfl rfl ?_
          refine go_run' ttok 1 rfl ?_
          refine go_nil nd ?_
          refine then_norm ?_
          refine awp_seq ?_
          refine awp_go hmix ?_
          refine go_run' ttok 4 rfl ?_
          refine go_gcase rfl rfl rfl (fun g32 => ?_) (fun g32 => ?_)
          · rw [g32]
            replace h := of_bif_t h g32
            refine go_run' ttok 5 rfl ?_
            refine go_gcase rfl rfl rfl (fun g33 => ?_) (fun g33 => ?_)
            · rw [g33]
              replace h := of_bif_t h g33
              refine go_run' ttok 3 rfl ?_
              obtain ⟨wv1, hv34, h⟩ := of_obind h
              refine go_call fn45 (defect_Worst_w l (max windows.1 windows.2) wv1 hv34) rfl rfl rfl rfl rfl rfl rfl ?_
              refine go_run' ttok 3 rfl ?_
              refine go_gcase rfl rfl rfl (fun g35 => ?_) (fun g35 => ?_)
              · rw [g35]
                replace h := of_bif_t h g35
                refine go_run' ttok 3 rfl ?_
                obtain ⟨wv2, hv36, h⟩ := of_obind h
                refine go_callL (L := [(19, some ⟨41, 7, l2.map encDf⟩)]) fn45 (defect_Worst_w l2 (min windows.1 windows.2) wv2 hv36) rfl rfl rfl ⟨rfl, List.not_mem_nil, trivial⟩ ⟨(wkP_lend rfl (by first | rfl | simp [setI]) (fun _ => rfl)), (wkP_refl _ rfl), trivial⟩ rfl rfl (fun _ => rfl) rfl ?_
                refine go_run' ttok 3 rfl ?_
                refine go_gcase rfl rfl rfl (fun g37 => ?_) (fun g37 => ?_)
                · rw [g37]
                  replace h := of_bif_t h g37
                  obtain ⟨av3, hv38, h⟩ := of_obind h
                  refine go_call fn30 (l13_awake_w av3 hv38) rfl rfl rfl rfl rfl rfl rfl ?_
                  refine go_run' ttok 2 rfl ?_
                  refine go_nil nd ?_
                  refine then_norm ?_
                  refine awp_ret ?_
                  have e39 := of_some h
                  subst e39
                  refine ret_ret ?_
                  refine fin0 ttok rfl rfl ?_
                  exact (wkP_refl _ rfl)
                · rw [g37]
                  replace h := of_bif_f h g37
                  refine go_run' ttok 3 rfl ?_
                  refine go_nil nd ?_
                  refine then_norm ?_
                  refine awp_ret ?_
                  have e40 := of_some h
                  subst e40
                  refine ret_ret ?_
                  refine fin0 ttok rfl rfl ?_
                  exact (wkP_refl _ rfl)
              · rw [g35]
                replace h := of_bif_f h g35
                refine go_run' ttok 10 rfl ?_
                refine go_nil nd ?_
                refine then_norm ?_
                refine awp_ret ?_
                have e41 := of_some h
                subst e41
                refine ret_ret ?_
                refine fin0 ttok rfl rfl ?_
                exact (wkP_refl _ rfl)
            · rw [g33]
              replace h := of_bif_f h g33
              refine go_run' ttok 17 rfl ?_
              refine go_nil nd ?_
              refine then_norm ?_
              refine awp_ret ?_
              have e42 := of_some h
              subst e42
              refine ret_ret ?_
              refine fin0 ttok rfl rfl ?_
              exact (wkP_refl _ rfl)
          · rw [g32]
            replace h := of_bif_f h g32
            refine go_run' ttok 22 rfl ?_
            refine go_nil nd ?_
            refine then_norm ?_
            refine awp_ret ?_
            have e43 := of_some h
            subst e43
            refine ret_ret ?_
            refine fin0 ttok rfl rfl ?_
            exact (wkP_refl _ rfl)

end Go.Proofs.Ytbgoflekklfdjaa
