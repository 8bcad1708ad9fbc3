/- A1a: what functions of the program compute (written by mod.py). -/
import Derived.Test.YtbgoflekklfdjaaTy
import Derived.KernelRfl
namespace Go.Proofs.Ytbgoflekklfdjaa
open Go Go.Ab
set_option linter.unusedSimpArgs false
set_option linter.unusedVariables false
set_option maxRecDepth 20000

/-- sawmill/sawmilllaw41.few -/
noncomputable def l41_few_g (b : TBoard) (s : TSpecies) : Bool :=
  (bif (decide (((b.Defects.length : Nat) : Int) ≤ 70)) then (decide (((s.Name.size : Nat) : Int) ≤ 100)) else false)
theorem l41_few_w (b : TBoard) (s : TSpecies) (r : Bool) (h : l41_few_g b s = r) : Holds Try.prog 15 [(encTBoard b), (encTSpecies s)] [] (B r) [] := by
  unfold l41_few_g at h
  refine holds_fn Try.func15 rfl Try.ntmps15 rfl rfl rfl ?_
  refine awp_seq ?_
  refine awp_go hmix ?_
  refine go_run' ttok 3 rfl ?_
  refine go_nil nd ?_
  refine then_norm ?_
  refine awp_seq ?_
  refine awp_go hmix ?_
  refine go_run' ttok 2 rfl ?_
  refine go_lenT encDf b.Defects ttok rfl rfl rfl rfl rfl rfl ?_
  refine go_run' ttok 2 rfl ?_
  refine go_gcase rfl rfl rfl (fun g1 => ?_) (fun g1 => ?_)
  · rw [g1]
    replace h := of_bif_t h g1
    refine go_run' ttok 6 rfl ?_
    refine go_nil nd ?_
    refine then_norm ?_
    refine awp_ret ?_
    have e2 := h
    subst e2
    refine ret_ret ?_
    refine fin0 ttok rfl rfl ?_
    exact (wkP_refl _ rfl)
  · rw [g1]
    replace h := of_bif_f h g1
    refine go_run' ttok 6 rfl ?_
    refine go_nil nd ?_
    refine then_norm ?_
    refine awp_ret ?_
    have e3 := h
    subst e3
    refine ret_ret ?_
    refine fin0 ttok rfl rfl ?_
    exact (wkP_refl _ rfl)

/-- sawmill/sawmillref13.Empty -/
noncomputable def r13_Empty_g (b : Bx) : Bool :=
  (bif (decide (b.x.b ≤ b.x.a)) then true else (bif (decide (b.y.b ≤ b.y.a)) then true else (decide (b.z.b ≤ b.z.a))))
theorem r13_Empty_w (b : Bx) (r : Bool) (h : r13_Empty_g b = r) : Holds Try.prog 50 [(encBx b)] [] (B r) [] := by
  unfold r13_Empty_g at h
  refine holds_fn Try.func50 rfl Try.ntmps50 rfl rfl rfl ?_
  refine awp_seq ?_
  refine awp_go hmix ?_
  refine go_run' ttok 2 rfl ?_
  refine go_nil nd ?_
  refine then_norm ?_
  refine awp_seq ?_
  refine awp_go hmix ?_
  refine go_run' ttok 8 rfl ?_
  refine go_gcase rfl rfl rfl (fun g1 => ?_) (fun g1 => ?_)
  · rw [g1]
    replace h := of_bif_t h g1
    refine go_run' ttok 18 rfl ?_
    refine go_nil nd ?_
    refine then_norm ?_
    refine awp_ret ?_
    have e2 := h
    subst e2
    refine ret_ret ?_
    refine fin0 ttok rfl rfl ?_
    exact (wkP_refl _ rfl)
  · rw [g1]
    replace h := of_bif_f h g1
    refine go_run' ttok 9 rfl ?_
    refine go_gcase rfl rfl rfl (fun g3 => ?_) (fun g3 => ?_)
    · rw [g3]
      replace h := of_bif_t h g3
      refine go_run' ttok 9 rfl ?_
      refine go_nil nd ?_
      refine then_norm ?_
      refine awp_ret ?_
      have e4 := h
      subst e4
      refine ret_ret ?_
      refine fin0 ttok rfl rfl ?_
      exact (wkP_refl _ rfl)
    · rw [g3]
      replace h := of_bif_f h g3
      refine go_run' ttok 9 rfl ?_
      refine go_nil nd ?_
      refine then_norm ?_
      refine awp_ret ?_
      have e5 := h
      subst e5
      refine ret_ret ?_
      refine fin0 ttok rfl rfl ?_
      exact (wkP_refl _ rfl)

/-- sawmill/sawmillref13.in -/
noncomputable def r13_in_g (s : Sp) (low : Int) (high : Int) : Bool :=
  (bif (decide (low ≤ s.a)) then (decide (s.b ≤ high)) else false)
theorem r13_in_w (s : Sp) (low : Int) (high : Int) (r : Bool) (h : r13_in_g s low high = r) : Holds Try.prog 79 [(encSp s), (I low), (I high)] [] (B r) [] := by
  unfold r13_in_g at h
  refine holds_fn Try.func79 rfl Try.ntmps79 rfl rfl rfl ?_
  refine awp_seq ?_
  refine awp_go hmix ?_
  refine go_run' ttok 2 rfl ?_
  refine go_nil nd ?_
  refine then_norm ?_
  refine awp_seq ?_
  refine awp_go hmix ?_
  refine go_run' ttok 5 rfl ?_
  refine go_gcase rfl rfl rfl (fun g1 => ?_) (fun g1 => ?_)
  · rw [g1]
    replace h := of_bif_t h g1
    refine go_run' ttok 6 rfl ?_
    refine go_nil nd ?_
    refine then_norm ?_
    refine awp_ret ?_
    have e2 := h
    subst e2
    refine ret_ret ?_
    refine fin0 ttok rfl rfl ?_
    exact (wkP_refl _ rfl)
  · rw [g1]
    replace h := of_bif_f h g1
    refine go_run' ttok 6 rfl ?_
    refine go_nil nd ?_
    refine then_norm ?_
    refine awp_ret ?_
    have e3 := h
    subst e3
    refine ret_ret ?_
    refine fin0 ttok rfl rfl ?_
    exact (wkP_refl _ rfl)

/-- sawmill/sawmillref13.Ranged -/
noncomputable def r13_Ranged_g (b : Bx) : Bool :=
  (bif (r13_in_g b.x (-600) 600) then (bif (r13_in_g b.y (-600) 600) then (r13_in_g b.z 0 20000) else false) else false)
theorem r13_Ranged_w (b : Bx) (r : Bool) (h : r13_Ranged_g b = r) : Holds Try.prog 60 [(encBx b)] [] (B r) [] := by
  unfold r13_Ranged_g at h
  refine holds_fn Try.func60 rfl Try.ntmps60 rfl rfl rfl ?_
  refine awp_seq ?_
  refine awp_go hmix ?_
  refine go_run' ttok 2 rfl ?_
  refine go_nil nd ?_
  refine then_norm ?_
  refine awp_seq ?_
  refine awp_go hmix ?_
  refine go_run' ttok 2 rfl ?_
  refine go_call fn79 (r13_in_w b.x (-600) 600 _ rfl) rfl rfl rfl rfl rfl rfl rfl ?_
  refine go_run' ttok 1 rfl ?_
  refine go_gcase rfl rfl rfl (fun g1 => ?_) (fun g1 => ?_)
  · rw [g1]
    replace h := of_bif_t h g1
    refine go_run' ttok 2 rfl ?_
    refine go_call fn79 (r13_in_w b.y (-600) 600 _ rfl) rfl rfl rfl rfl rfl rfl rfl ?_
    refine go_run' ttok 2 rfl ?_
    refine go_gcase rfl rfl rfl (fun g2 => ?_) (fun g2 => ?_)
    · rw [g2]
      replace h := of_bif_t h g2
      refine go_run' ttok 2 rfl ?_
      refine go_call fn79 (r13_in_w b.z 0 20000 _ rfl) rfl rfl rfl rfl rfl rfl rfl ?_
      refine go_run' ttok 2 rfl ?_
      refine go_nil nd ?_
      refine then_norm ?_
      refine awp_ret ?_
      have e3 := h
      subst e3
      refine ret_ret ?_
      refine fin0 ttok rfl rfl ?_
      exact (wkP_refl _ rfl)
    · rw [g2]
      replace h := of_bif_f h g2
      refine go_run' ttok 5 rfl ?_
      refine go_nil nd ?_
      refine then_norm ?_
      refine awp_ret ?_
      have e4 := h
      subst e4
      refine ret_ret ?_
      refine fin0 ttok rfl rfl ?_
      exact (wkP_refl _ rfl)
  · rw [g1]
    replace h := of_bif_f h g1
    refine go_run' ttok 10 rfl ?_
    refine go_nil nd ?_
    refine then_norm ?_
    refine awp_ret ?_
    have e5 := h
    subst e5
    refine ret_ret ?_
    refine fin0 ttok rfl rfl ?_
    exact (wkP_refl _ rfl)

noncomputable def r13_Check_s1 (l : (List Df)) (i : Int) : Option (Int ⊕ (Int ⊕ Unit)) :=
  (bif (decide (i < ((l.length : Nat) : Int))) then (Option.bind ((Option.bind (getI l i) (fun e => (bif (decide (e.k < 1)) then some true else (Option.bind (getI l i) (fun e1 => some (decide (6 < e1.k))))))) : Option Bool) (fun vv => (bif vv then some (Sum.inr (Sum.inl 10)) else (Option.bind (getI l i) (fun e2 => (bif (r13_Empty_g e2.b) then some (Sum.inr (Sum.inl 19)) else (Option.bind (getI l i) (fun e3 => (bif (!(r13_Ranged_g e3.b)) then some (Sum.inr (Sum.inl 9)) else some (Sum.inl (W64 (i + 1)))))))))))) else some (Sum.inr (Sum.inr ())))
/-- sawmill/sawmillref13.Check -/
noncomputable def r13_Check_g (l : (List Df)) : Option Int :=
  (bif (decide (64 < ((l.length : Nat) : Int))) then some 4 else (Option.bind ((loopO (fun q => r13_Check_s1 l q) 0) : Option (Int ⊕ Unit)) (Sum.elim (fun q => some q) (fun _ => some 0))))
theorem r13_Check_w (l : (List Df)) (r : Int) (h : r13_Check_g l = some r) : Holds Try.prog 26 [((encL encDf) l)] [] (I r) [] := by
  unfold r13_Check_g at h
  refine holds_fn Try.func26 rfl Try.ntmps26 rfl rfl rfl ?_
  refine awp_seq ?_
  refine awp_go hmix ?_
  refine go_run' ttok 1 rfl ?_
  refine go_nil nd ?_
  refine then_norm ?_
  refine awp_seq ?_
  refine awp_seq ?_
  refine awp_go hmix ?_
  refine go_run' ttok 1 rfl ?_
  refine go_lenT encDf l ttok rfl rfl rfl rfl rfl rfl ?_
  refine go_run' ttok 1 rfl ?_
  refine go_nil nd ?_
  refine then_norm ?_
  refine awp_cond (b := (decide (64 < ((l.length : Nat) : Int)))) rfl (fun c1 => ?_) (fun c1 => ?_)
  · replace h := of_bif_t h c1
    refine awp_seq ?_
    refine awp_go hmix ?_
    refine go_run' ttok 1 rfl ?_
    refine go_nil nd ?_
    refine then_norm ?_
    refine awp_ret ?_
    refine then_ret ?_
    have e2 := of_some h
    subst e2
    refine ret_ret ?_
    refine fin0 ttok rfl rfl ?_
    exact (wkP_refl _ rfl)
  · replace h := of_bif_f h c1
    refine awp_skip ?_
    refine then_norm ?_
    obtain ⟨y, hx3, h⟩ := of_obind h
    refine awp_seqJ (X := Unit) [] [] (fun _ => []) (fun _ => []) (fun w => Sum.inr w = y) rfl rfl ?_ ?_
    · skip
      refine awp_seq ?_
      refine awp_go hmix ?_
      refine go_run' ttok 1 rfl ?_
      refine go_nil nd ?_
      refine then_norm ?_
      refine awp_block ?_
      refine awp_loopD (X := Int) (Y := (Int ⊕ Unit)) [0] [] (fun q => [(3, (I q))]) (fun q => []) (fun q => r13_Check_s1 l q) 0 [] hx3 ⟨rfl, rfl, rfl, rfl, rfl, ⟨wkP_id _ rfl, trivial⟩, trivial⟩ (fun i vR vz hz5 hk6 => ?_)
      change r13_Check_s1 l i = _ at hz5
      unfold r13_Check_s1 at hz5
      refine awp_seq ?_
      refine awp_seq ?_
      refine awp_go hmix ?_
      refine go_run' ttok 2 rfl ?_
      refine go_lenT encDf l ttok rfl rfl rfl rfl rfl rfl ?_
      refine go_run' ttok 1 rfl ?_
      refine go_nil nd ?_
      refine then_norm ?_
      refine awp_cond (b := (decide (i < ((l.length : Nat) : Int)))) rfl (fun c7 => ?_) (fun c7 => ?_)
      · replace hz5 := of_bif_t hz5 c7
        refine awp_skip ?_
        refine then_norm ?_
        refine awp_seq ?_
        refine awp_block ?_
        refine awp_block ?_
        obtain ⟨y1, hx8, hz5⟩ := of_obind hz5
        refine awp_seqJ (X := Bool) [0, 3] [] (fun w1 => [(13, (B w1))]) (fun w1 => []) (fun w1 => w1 = y1) rfl rfl ?_ ?_
        · skip
          refine awp_go hmix ?_
          refine go_run' ttok 2 rfl ?_
          obtain ⟨e, hv10, hx8⟩ := of_obind hx8
          refine go_indexT encDf l i e hv10 ttok rfl rfl rfl rfl rfl rfl rfl rfl rfl ?_
          refine go_run' ttok 4 rfl ?_
          refine go_gcase rfl rfl rfl (fun g11 => ?_) (fun g11 => ?_)
          · rw [g11]
            replace hx8 := of_bif_t hx8 g11
            refine go_run' ttok 8 rfl ?_
            refine go_nil nd ?_
            have e12 := of_some hx8
            refine then_norm ⟨rfl, true, [], ⟨rfl, rfl, rfl, rfl, rfl, ⟨wkP_id _ rfl, trivial⟩, trivial⟩, e12⟩
          · rw [g11]
            replace hx8 := of_bif_f hx8 g11
            refine go_run' ttok 2 rfl ?_
            obtain ⟨e1, hv13, hx8⟩ := of_obind hx8
            refine go_indexT encDf l i e1 hv13 ttok rfl rfl rfl rfl rfl rfl rfl rfl rfl ?_
            refine go_run' ttok 5 rfl ?_
            refine go_nil nd ?_
            have e14 := of_some hx8
            refine then_norm ⟨rfl, (decide (6 < e1.k)), [], ⟨rfl, rfl, rfl, rfl, rfl, ⟨wkP_id _ rfl, trivial⟩, trivial⟩, e14⟩
        · intro vv hw9
          subst hw9
          refine awp_cond (b := vv) rfl (fun c15 => ?_) (fun c15 => ?_)
          · replace hz5 := of_bif_t hz5 c15
            refine awp_seq ?_
            refine awp_go hmix ?_
            refine go_run' ttok 1 rfl ?_
            refine go_nil nd ?_
            refine then_norm ?_
            refine awp_ret ?_
            refine block_ret ?_
            refine block_ret ?_
            refine then_ret ?_
            obtain ⟨t, hn16, hq⟩ := of_mapr' hz5
            subst hq
            have hq : t = _ := hk6
            subst hq
            refine then_ret ?_
            refine block_ret ?_
            obtain ⟨t1, hn17, hq⟩ := of_mapl' hn16
            subst hq
            have hq := of_inl h
            replace hq := of_some hq
            subst hq
            refine then_ret ?_
            have e18 := of_some hn17
            subst e18
            refine ret_ret ?_
            refine fin0 ttok rfl rfl ?_
            exact (wkP_refl _ rfl)
          · replace hz5 := of_bif_f hz5 c15
            refine awp_seq ?_
            refine awp_go hmix ?_
            refine go_run' ttok 2 rfl ?_
            obtain ⟨e2, hv19, hz5⟩ := of_obind hz5
            refine go_indexT encDf l i e2 hv19 ttok rfl rfl rfl rfl rfl rfl rfl rfl rfl ?_
            refine go_run' ttok 2 rfl ?_
            refine go_call fn50 (r13_Empty_w e2.b _ rfl) rfl rfl rfl rfl rfl rfl rfl ?_
            refine go_run' ttok 1 rfl ?_
            refine go_nil nd ?_
            refine then_norm ?_
            refine awp_cond (b := (r13_Empty_g e2.b)) rfl (fun c20 => ?_) (fun c20 => ?_)
            · replace hz5 := of_bif_t hz5 c20
              refine awp_seq ?_
              refine awp_go hmix ?_
              refine go_run' ttok 1 rfl ?_
              refine go_nil nd ?_
              refine then_norm ?_
              refine awp_ret ?_
              refine block_ret ?_
              refine block_ret ?_
              refine then_ret ?_
              obtain ⟨t2, hn21, hq⟩ := of_mapr' hz5
              subst hq
              have hq : t2 = _ := hk6
              subst hq
              refine then_ret ?_
              refine block_ret ?_
              obtain ⟨t3, hn22, hq⟩ := of_mapl' hn21
              subst hq
              have hq := of_inl h
              replace hq := of_some hq
              subst hq
              refine then_ret ?_
              have e23 := of_some hn22
              subst e23
              refine ret_ret ?_
              refine fin0 ttok rfl rfl ?_
              exact (wkP_refl _ rfl)
            · replace hz5 := of_bif_f hz5 c20
              refine awp_seq ?_
              refine awp_go hmix ?_
              refine go_run' ttok 2 rfl ?_
              obtain ⟨e3, hv24, hz5⟩ := of_obind hz5
              refine go_indexT encDf l i e3 hv24 ttok rfl rfl rfl rfl rfl rfl rfl rfl rfl ?_
              refine go_run' ttok 2 rfl ?_
              refine go_call fn60 (r13_Ranged_w e3.b _ rfl) rfl rfl rfl rfl rfl rfl rfl ?_
              refine go_run' ttok 2 rfl ?_
              refine go_nil nd ?_
              refine then_norm ?_
              refine awp_cond (b := (!(r13_Ranged_g e3.b))) rfl (fun c25 => ?_) (fun c25 => ?_)
              · replace hz5 := of_bif_t hz5 c25
                refine awp_seq ?_
                refine awp_go hmix ?_
                refine go_run' ttok 1 rfl ?_
                refine go_nil nd ?_
                refine then_norm ?_
                refine awp_ret ?_
                refine block_ret ?_
                refine block_ret ?_
                refine then_ret ?_
                obtain ⟨t4, hn26, hq⟩ := of_mapr' hz5
                subst hq
                have hq : t4 = _ := hk6
                subst hq
                refine then_ret ?_
                refine block_ret ?_
                obtain ⟨t5, hn27, hq⟩ := of_mapl' hn26
                subst hq
                have hq := of_inl h
                replace hq := of_some hq
                subst hq
                refine then_ret ?_
                have e28 := of_some hn27
                subst e28
                refine ret_ret ?_
                refine fin0 ttok rfl rfl ?_
                exact (wkP_refl _ rfl)
              · replace hz5 := of_bif_f hz5 c25
                refine awp_skip ?_
                refine block_norm ?_
                refine block_norm ?_
                refine then_norm ?_
                refine awp_go hmix ?_
                refine go_run' ttok 3 rfl ?_
                refine go_nil nd ?_
                have e29 := of_some hz5
                subst e29
                refine then_norm ⟨rfl, (W64 (i + 1)), [], ⟨rfl, rfl, rfl, rfl, rfl, ⟨wkP_id _ rfl, trivial⟩, trivial⟩, hk6⟩
      · replace hz5 := of_bif_f hz5 c7
        refine awp_exit ?_
        refine then_exit ?_
        obtain ⟨t6, hn30, hq⟩ := of_mapr' hz5
        subst hq
        have hq : t6 = _ := hk6
        subst hq
        refine then_exit ?_
        refine block_here ?_
        have e31 := of_some hn30
        refine then_norm ⟨rfl, (), [], ⟨rfl, rfl, rfl, rfl, rfl, trivial, trivial⟩, e31⟩
    · intro w hw4
      subst hw4
      replace h := of_inr h
      refine awp_seq ?_
      refine awp_go hmix ?_
      refine go_run' ttok 1 rfl ?_
      refine go_nil nd ?_
      refine then_norm ?_
      refine awp_ret ?_
      have e32 := of_some h
      subst e32
      refine ret_ret ?_
      refine fin0 ttok rfl rfl ?_
      exact (wkP_refl _ rfl)

/-- sawmill/sawmillref03.Len -/
noncomputable def r03_Len_g (s : Sp) : Int :=
  (bif (decide (s.b ≤ s.a)) then 0 else (bif (decide (s.a < 0)) then (bif (decide ((W64 (9223372036854775807 + s.a)) < s.b)) then 9223372036854775807 else (W64 (s.b - s.a))) else (W64 (s.b - s.a))))
theorem r03_Len_w (s : Sp) (r : Int) (h : r03_Len_g s = r) : Holds Try.prog 28 [(encSp s)] [] (I r) [] := by
  unfold r03_Len_g at h
  refine holds_fn Try.func28 rfl Try.ntmps28 rfl rfl rfl ?_
  refine awp_seq ?_
  refine awp_go hmix ?_
  refine go_run' ttok 2 rfl ?_
  refine go_nil nd ?_
  refine then_norm ?_
  refine awp_seq ?_
  refine awp_seq ?_
  refine awp_go hmix ?_
  refine go_run' ttok 5 rfl ?_
  refine go_nil nd ?_
  refine then_norm ?_
  refine awp_cond (b := (decide (s.b ≤ s.a))) rfl (fun c1 => ?_) (fun c1 => ?_)
  · replace h := of_bif_t h c1
    refine awp_seq ?_
    refine awp_go hmix ?_
    refine go_run' ttok 1 rfl ?_
    refine go_nil nd ?_
    refine then_norm ?_
    refine awp_ret ?_
    refine then_ret ?_
    have e2 := h
    subst e2
    refine ret_ret ?_
    refine fin0 ttok rfl rfl ?_
    exact (wkP_refl _ rfl)
  · replace h := of_bif_f h c1
    refine awp_skip ?_
    refine then_norm ?_
    refine awp_seq ?_
    refine awp_seq ?_
    refine awp_go hmix ?_
    refine go_run' ttok 4 rfl ?_
    refine go_gcase rfl rfl rfl (fun g3 => ?_) (fun g3 => ?_)
    · rw [g3]
      replace h := of_bif_t h g3
      refine go_run' ttok 7 rfl ?_
      refine go_nil nd ?_
      refine then_norm ?_
      refine awp_cond (b := (decide ((W64 (9223372036854775807 + s.a)) < s.b))) rfl (fun c4 => ?_) (fun c4 => ?_)
      · replace h := of_bif_t h c4
        refine awp_seq ?_
        refine awp_go hmix ?_
        refine go_run' ttok 1 rfl ?_
        refine go_nil nd ?_
        refine then_norm ?_
        refine awp_ret ?_
        refine then_ret ?_
        have e5 := h
        subst e5
        refine ret_ret ?_
        refine fin0 ttok rfl rfl ?_
        exact (wkP_refl _ rfl)
      · replace h := of_bif_f h c4
        refine awp_skip ?_
        refine then_norm ?_
        refine awp_seq ?_
        refine awp_go hmix ?_
        refine go_run' ttok 6 rfl ?_
        refine go_nil nd ?_
        refine then_norm ?_
        refine awp_ret ?_
        have e6 := h
        subst e6
        refine ret_ret ?_
        refine fin0 ttok rfl rfl ?_
        exact (wkP_refl _ rfl)
    · rw [g3]
      replace h := of_bif_f h g3
      refine go_run' ttok 7 rfl ?_
      refine go_nil nd ?_
      refine then_norm ?_
      refine awp_cond rfl (fun h => by cases h) (fun tt0 => ?_)
      clear tt0
      refine awp_skip ?_
      refine then_norm ?_
      refine awp_seq ?_
      refine awp_go hmix ?_
      refine go_run' ttok 6 rfl ?_
      refine go_nil nd ?_
      refine then_norm ?_
      refine awp_ret ?_
      have e7 := h
      subst e7
      refine ret_ret ?_
      refine fin0 ttok rfl rfl ?_
      exact (wkP_refl _ rfl)

/-- sawmill/sawmillref41.Width -/
noncomputable def r41_Width_g (b : TBoard) : Int :=
  (max (r03_Len_g b.Box.x) (r03_Len_g b.Box.y))
theorem r41_Width_w (b : TBoard) (r : Int) (h : r41_Width_g b = r) : Holds Try.prog 52 [(encTBoard b)] [] (I r) [] := by
  unfold r41_Width_g at h
  refine holds_fn Try.func52 rfl Try.ntmps52 rfl rfl rfl ?_
  refine awp_seq ?_
  refine awp_go hmix ?_
  refine go_run' ttok 2 rfl ?_
  refine go_nil nd ?_
  refine then_norm ?_
  refine awp_seq ?_
  refine awp_go hmix ?_
  refine go_run' ttok 3 rfl ?_
  refine go_call fn28 (r03_Len_w b.Box.x _ rfl) rfl rfl rfl rfl rfl rfl rfl ?_
  refine go_run' ttok 3 rfl ?_
  refine go_call fn28 (r03_Len_w b.Box.y _ rfl) rfl rfl rfl rfl rfl rfl rfl ?_
  refine go_run' ttok 2 rfl ?_
  refine go_nil (fun _ => by kernel_rfl) ?_
  refine then_norm ?_
  refine awp_ret ?_
  have e1 := h
  subst e1
  refine ret_ret ?_
  refine fin0 ttok rfl rfl ?_
  exact (wkP_refl _ rfl)

/-- sawmill/sawmillref36.Check -/
noncomputable def r36_Check_g (c : TCell) : Int :=
  (bif (decide (c.Surf < 0)) then 25 else (bif (decide (20000 < c.Surf)) then 25 else (bif (decide (c.Core < 0)) then 25 else (bif (decide (20000 < c.Core)) then 25 else (bif (decide (c.Stress < 0)) then 9 else (bif (decide (1099511627776 < c.Stress)) then 9 else 0))))))
theorem r36_Check_w (c : TCell) (r : Int) (h : r36_Check_g c = r) : Holds Try.prog 53 [(encTCell c)] [] (I r) [] := by
  unfold r36_Check_g at h
  refine holds_fn Try.func53 rfl Try.ntmps53 rfl rfl rfl ?_
  refine awp_seq ?_
  refine awp_go hmix ?_
  refine go_run' ttok 2 rfl ?_
  refine go_nil nd ?_
  refine then_norm ?_
  refine awp_seq ?_
  refine awp_seq ?_
  refine awp_go hmix ?_
  refine go_run' ttok 4 rfl ?_
  refine go_gcase rfl rfl rfl (fun g1 => ?_) (fun g1 => ?_)
  · rw [g1]
    replace h := of_bif_t h g1
    refine go_run' ttok 14 rfl ?_
    refine go_nil nd ?_
    refine then_norm ?_
    refine awp_cond rfl (fun tt0 => ?_) (fun h => by cases h)
    clear tt0
    refine awp_seq ?_
    refine awp_go hmix ?_
    refine go_run' ttok 1 rfl ?_
    refine go_nil nd ?_
    refine then_norm ?_
    refine awp_ret ?_
    refine then_ret ?_
    have e2 := h
    subst e2
    refine ret_ret ?_
    refine fin0 ttok rfl rfl ?_
    exact (wkP_refl _ rfl)
  · rw [g1]
    replace h := of_bif_f h g1
    refine go_run' ttok 5 rfl ?_
    refine go_gcase rfl rfl rfl (fun g3 => ?_) (fun g3 => ?_)
    · rw [g3]
      replace h := of_bif_t h g3
      refine go_run' ttok 9 rfl ?_
      refine go_nil nd ?_
      refine then_norm ?_
      refine awp_cond rfl (fun tt0 => ?_) (fun h => by cases h)
      clear tt0
      refine awp_seq ?_
      refine awp_go hmix ?_
      refine go_run' ttok 1 rfl ?_
      refine go_nil nd ?_
      refine then_norm ?_
      refine awp_ret ?_
      refine then_ret ?_
      have e4 := h
      subst e4
      refine ret_ret ?_
      refine fin0 ttok rfl rfl ?_
      exact (wkP_refl _ rfl)
    · rw [g3]
      replace h := of_bif_f h g3
      refine go_run' ttok 5 rfl ?_
      refine go_gcase rfl rfl rfl (fun g5 => ?_) (fun g5 => ?_)
      · rw [g5]
        replace h := of_bif_t h g5
        refine go_run' ttok 4 rfl ?_
        refine go_nil nd ?_
        refine then_norm ?_
        refine awp_cond rfl (fun tt0 => ?_) (fun h => by cases h)
        clear tt0
        refine awp_seq ?_
        refine awp_go hmix ?_
        refine go_run' ttok 1 rfl ?_
        refine go_nil nd ?_
        refine then_norm ?_
        refine awp_ret ?_
        refine then_ret ?_
        have e6 := h
        subst e6
        refine ret_ret ?_
        refine fin0 ttok rfl rfl ?_
        exact (wkP_refl _ rfl)
      · rw [g5]
        replace h := of_bif_f h g5
        refine go_run' ttok 4 rfl ?_
        refine go_nil nd ?_
        refine then_norm ?_
        refine awp_cond (b := (decide (20000 < c.Core))) rfl (fun c7 => ?_) (fun c7 => ?_)
        · replace h := of_bif_t h c7
          refine awp_seq ?_
          refine awp_go hmix ?_
          refine go_run' ttok 1 rfl ?_
          refine go_nil nd ?_
          refine then_norm ?_
          refine awp_ret ?_
          refine then_ret ?_
          have e8 := h
          subst e8
          refine ret_ret ?_
          refine fin0 ttok rfl rfl ?_
          exact (wkP_refl _ rfl)
        · replace h := of_bif_f h c7
          refine awp_skip ?_
          refine then_norm ?_
          refine awp_seq ?_
          refine awp_seq ?_
          refine awp_go hmix ?_
          refine go_run' ttok 4 rfl ?_
          refine go_gcase rfl rfl rfl (fun g9 => ?_) (fun g9 => ?_)
          · rw [g9]
            replace h := of_bif_t h g9
            refine go_run' ttok 4 rfl ?_
            refine go_nil nd ?_
            refine then_norm ?_
            refine awp_cond rfl (fun tt0 => ?_) (fun h => by cases h)
            clear tt0
            refine awp_seq ?_
            refine awp_go hmix ?_
            refine go_run' ttok 1 rfl ?_
            refine go_nil nd ?_
            refine then_norm ?_
            refine awp_ret ?_
            refine then_ret ?_
            have e10 := h
            subst e10
            refine ret_ret ?_
            refine fin0 ttok rfl rfl ?_
            exact (wkP_refl _ rfl)
          · rw [g9]
            replace h := of_bif_f h g9
            refine go_run' ttok 4 rfl ?_
            refine go_nil nd ?_
            refine then_norm ?_
            refine awp_cond (b := (decide (1099511627776 < c.Stress))) rfl (fun c11 => ?_) (fun c11 => ?_)
            · replace h := of_bif_t h c11
              refine awp_seq ?_
              refine awp_go hmix ?_
              refine go_run' ttok 1 rfl ?_
              refine go_nil nd ?_
              refine then_norm ?_
              refine awp_ret ?_
              refine then_ret ?_
              have e12 := h
              subst e12
              refine ret_ret ?_
              refine fin0 ttok rfl rfl ?_
              exact (wkP_refl _ rfl)
            · replace h := of_bif_f h c11
              refine awp_skip ?_
              refine then_norm ?_
              refine awp_seq ?_
              refine awp_go hmix ?_
              refine go_run' ttok 1 rfl ?_
              refine go_nil nd ?_
              refine then_norm ?_
              refine awp_ret ?_
              have e13 := h
              subst e13
              refine ret_ret ?_
              refine fin0 ttok rfl rfl ?_
              exact (wkP_refl _ rfl)

/-- sawmill/sawmillref02.digit -/
noncomputable def r02_digit_g (c : Int) : Bool :=
  (bif (decide (48 ≤ c)) then (decide (c ≤ 57)) else false)
theorem r02_digit_w (c : Int) (r : Bool) (h : r02_digit_g c = r) : Holds Try.prog 80 [(U8 c)] [] (B r) [] := by
  unfold r02_digit_g at h
  refine holds_fn Try.func80 rfl Try.ntmps80 rfl rfl rfl ?_
  refine awp_seq ?_
  refine awp_go hmix ?_
  refine go_run' ttok 1 rfl ?_
  refine go_nil nd ?_
  refine then_norm ?_
  refine awp_seq ?_
  refine awp_go hmix ?_
  refine go_run' ttok 3 rfl ?_
  refine go_gcase rfl rfl rfl (fun g1 => ?_) (fun g1 => ?_)
  · rw [g1]
    replace h := of_bif_t h g1
    refine go_run' ttok 4 rfl ?_
    refine go_nil nd ?_
    refine then_norm ?_
    refine awp_ret ?_
    have e2 := h
    subst e2
    refine ret_ret ?_
    refine fin0 ttok rfl rfl ?_
    exact (wkP_refl _ rfl)
  · rw [g1]
    replace h := of_bif_f h g1
    refine go_run' ttok 4 rfl ?_
    refine go_nil nd ?_
    refine then_norm ?_
    refine awp_ret ?_
    have e3 := h
    subst e3
    refine ret_ret ?_
    refine fin0 ttok rfl rfl ?_
    exact (wkP_refl _ rfl)

noncomputable def r02_IsName_s1 (s : ByteArray) (i : Int) : Option (Int ⊕ (Bool ⊕ Unit)) :=
  (bif (decide (i < ((s.size : Nat) : Int))) then (Option.bind ((Option.bind (bytO s i) (fun c => (bif (decide (97 ≤ c)) then (Option.bind (bytO s i) (fun c1 => some (decide (c1 ≤ 122)))) else some false))) : Option Bool) (fun letter => (bif (!letter) then (bif (i == 0) then some (Sum.inr (Sum.inl false)) else (Option.bind (bytO s i) (fun c2 => (bif (c2 != 95) then (Option.bind (bytO s i) (fun c3 => (bif (!(r02_digit_g c3)) then some (Sum.inr (Sum.inl false)) else some (Sum.inl (W64 (i + 1)))))) else some (Sum.inl (W64 (i + 1))))))) else some (Sum.inl (W64 (i + 1)))))) else some (Sum.inr (Sum.inr ())))
/-- sawmill/sawmillref02.IsName -/
noncomputable def r02_IsName_g (s : ByteArray) : Option Bool :=
  (bif (decide (((s.size : Nat) : Int) < 1)) then some false else (bif (decide (16 < ((s.size : Nat) : Int))) then some false else (Option.bind ((loopO (fun q => r02_IsName_s1 s q) 0) : Option (Bool ⊕ Unit)) (Sum.elim (fun q => some q) (fun _ => some true)))))
theorem r02_IsName_w (s : ByteArray) (r : Bool) (h : r02_IsName_g s = some r) : Holds Try.prog 74 [(S s)] [] (B r) [] := by
  unfold r02_IsName_g at h
  refine holds_fn Try.func74 rfl Try.ntmps74 rfl rfl rfl ?_
  refine awp_seq ?_
  refine awp_go hmix ?_
  refine go_run' ttok 1 rfl ?_
  refine go_nil nd ?_
  refine then_norm ?_
  refine awp_seq ?_
  refine awp_seq ?_
  refine awp_go hmix ?_
  refine go_run' ttok 4 rfl ?_
  refine go_gcase rfl rfl rfl (fun g1 => ?_) (fun g1 => ?_)
  · rw [g1]
    replace h := of_bif_t h g1
    refine go_run' ttok 4 rfl ?_
    refine go_nil nd ?_
    refine then_norm ?_
    refine awp_cond rfl (fun tt0 => ?_) (fun h => by cases h)
    clear tt0
    refine awp_seq ?_
    refine awp_go hmix ?_
    refine go_run' ttok 1 rfl ?_
    refine go_nil nd ?_
    refine then_norm ?_
    refine awp_ret ?_
    refine then_ret ?_
    have e2 := of_some h
    subst e2
    refine ret_ret ?_
    refine fin0 ttok rfl rfl ?_
    exact (wkP_refl _ rfl)
  · rw [g1]
    replace h := of_bif_f h g1
    refine go_run' ttok 4 rfl ?_
    refine go_nil nd ?_
    refine then_norm ?_
    refine awp_cond (b := (decide (16 < ((s.size : Nat) : Int)))) rfl (fun c3 => ?_) (fun c3 => ?_)
    · replace h := of_bif_t h c3
      refine awp_seq ?_
      refine awp_go hmix ?_
      refine go_run' ttok 1 rfl ?_
      refine go_nil nd ?_
      refine then_norm ?_
      refine awp_ret ?_
      refine then_ret ?_
      have e4 := of_some h
      subst e4
      refine ret_ret ?_
      refine fin0 ttok rfl rfl ?_
      exact (wkP_refl _ rfl)
    · replace h := of_bif_f h c3
      refine awp_skip ?_
      refine then_norm ?_
      obtain ⟨y, hx5, h⟩ := of_obind h
      refine awp_seqJ (X := Unit) [] [] (fun _ => []) (fun _ => []) (fun w => Sum.inr w = y) rfl rfl ?_ ?_
      · skip
        refine awp_seq ?_
        refine awp_go hmix ?_
        refine go_run' ttok 1 rfl ?_
        refine go_nil nd ?_
        refine then_norm ?_
        refine awp_block ?_
        refine awp_loopD (X := Int) (Y := (Bool ⊕ Unit)) [0] [] (fun q => [(3, (I q))]) (fun q => []) (fun q => r02_IsName_s1 s q) 0 [] hx5 ⟨rfl, rfl, rfl, rfl, rfl, ⟨wkP_id _ rfl, trivial⟩, trivial⟩ (fun i vR vz hz7 hk8 => ?_)
        change r02_IsName_s1 s i = _ at hz7
        unfold r02_IsName_s1 at hz7
        refine awp_seq ?_
        refine awp_seq ?_
        refine awp_go hmix ?_
        refine go_run' ttok 4 rfl ?_
        refine go_nil nd ?_
        refine then_norm ?_
        refine awp_cond (b := (decide (i < ((s.size : Nat) : Int)))) rfl (fun c9 => ?_) (fun c9 => ?_)
        · replace hz7 := of_bif_t hz7 c9
          refine awp_skip ?_
          refine then_norm ?_
          refine awp_seq ?_
          refine awp_block ?_
          obtain ⟨y1, hx10, hz7⟩ := of_obind hz7
          refine awp_seqJ (X := Bool) [0, 3] [] (fun w1 => [(4, (B w1))]) (fun w1 => []) (fun w1 => w1 = y1) rfl rfl ?_ ?_
          · skip
            refine awp_go hmix ?_
            refine go_run' ttok 2 rfl ?_
            obtain ⟨c, hv12, hx10⟩ := of_obind hx10
            refine go_indexB s i c hv12 ttok rfl rfl rfl rfl rfl rfl rfl ?_
            refine go_run' ttok 2 rfl ?_
            refine go_gcase rfl rfl rfl (fun g13 => ?_) (fun g13 => ?_)
            · rw [g13]
              replace hx10 := of_bif_t hx10 g13
              refine go_run' ttok 2 rfl ?_
              obtain ⟨c1, hv14, hx10⟩ := of_obind hx10
              refine go_indexB s i c1 hv14 ttok rfl rfl rfl rfl rfl rfl rfl ?_
              refine go_run' ttok 3 rfl ?_
              refine go_nil nd ?_
              have e15 := of_some hx10
              refine then_norm ⟨rfl, (decide (c1 ≤ 122)), [], ⟨rfl, rfl, rfl, rfl, rfl, ⟨wkP_id _ rfl, trivial⟩, trivial⟩, e15⟩
            · rw [g13]
              replace hx10 := of_bif_f hx10 g13
              refine go_run' ttok 6 rfl ?_
              refine go_nil nd ?_
              have e16 := of_some hx10
              refine then_norm ⟨rfl, false, [], ⟨rfl, rfl, rfl, rfl, rfl, ⟨wkP_id _ rfl, trivial⟩, trivial⟩, e16⟩
          · intro letter hw11
            subst hw11
            refine awp_seq ?_
            refine awp_go hmix ?_
            refine go_run' ttok 3 rfl ?_
            refine go_gcase rfl rfl rfl (fun g17 => ?_) (fun g17 => ?_)
            · rw [g17]
              replace hz7 := of_bif_t hz7 g17
              refine go_run' ttok 3 rfl ?_
              refine go_gcase rfl rfl rfl (fun g18 => ?_) (fun g18 => ?_)
              · rw [g18]
                replace hz7 := of_bif_t hz7 g18
                refine go_run' ttok 13 rfl ?_
                refine go_nil nd ?_
                refine then_norm ?_
                refine awp_cond rfl (fun tt0 => ?_) (fun h => by cases h)
                clear tt0
                refine awp_seq ?_
                refine awp_go hmix ?_
                refine go_run' ttok 1 rfl ?_
                refine go_nil nd ?_
                refine then_norm ?_
                refine awp_ret ?_
                refine block_ret ?_
                refine then_ret ?_
                obtain ⟨t, hn19, hq⟩ := of_mapr' hz7
                subst hq
                have hq : t = _ := hk8
                subst hq
                refine then_ret ?_
                refine block_ret ?_
                obtain ⟨t1, hn20, hq⟩ := of_mapl' hn19
                subst hq
                have hq := of_inl h
                replace hq := of_some hq
                subst hq
                refine then_ret ?_
                have e21 := of_some hn20
                subst e21
                refine ret_ret ?_
                refine fin0 ttok rfl rfl ?_
                exact (wkP_refl _ rfl)
              · rw [g18]
                replace hz7 := of_bif_f hz7 g18
                refine go_run' ttok 2 rfl ?_
                obtain ⟨c2, hv22, hz7⟩ := of_obind hz7
                refine go_indexB s i c2 hv22 ttok rfl rfl rfl rfl rfl rfl rfl ?_
                refine go_run' ttok 2 rfl ?_
                refine go_gcase rfl rfl rfl (fun g23 => ?_) (fun g23 => ?_)
                · rw [g23]
                  replace hz7 := of_bif_t hz7 g23
                  refine go_run' ttok 2 rfl ?_
                  obtain ⟨c3, hv24, hz7⟩ := of_obind hz7
                  refine go_indexB s i c3 hv24 ttok rfl rfl rfl rfl rfl rfl rfl ?_
                  refine go_call fn80 (r02_digit_w c3 _ rfl) rfl rfl rfl rfl rfl rfl rfl ?_
                  refine go_run' ttok 4 rfl ?_
                  refine go_nil nd ?_
                  refine then_norm ?_
                  refine awp_cond (b := (!(r02_digit_g c3))) rfl (fun c25 => ?_) (fun c25 => ?_)
                  · replace hz7 := of_bif_t hz7 c25
                    refine awp_seq ?_
                    refine awp_go hmix ?_
                    refine go_run' ttok 1 rfl ?_
                    refine go_nil nd ?_
                    refine then_norm ?_
                    refine awp_ret ?_
                    refine block_ret ?_
                    refine then_ret ?_
                    obtain ⟨t2, hn26, hq⟩ := of_mapr' hz7
                    subst hq
                    have hq : t2 = _ := hk8
                    subst hq
                    refine then_ret ?_
                    refine block_ret ?_
                    obtain ⟨t3, hn27, hq⟩ := of_mapl' hn26
                    subst hq
                    have hq := of_inl h
                    replace hq := of_some hq
                    subst hq
                    refine then_ret ?_
                    have e28 := of_some hn27
                    subst e28
                    refine ret_ret ?_
                    refine fin0 ttok rfl rfl ?_
                    exact (wkP_refl _ rfl)
                  · replace hz7 := of_bif_f hz7 c25
                    refine awp_skip ?_
                    refine block_norm ?_
                    refine then_norm ?_
                    refine awp_go hmix ?_
                    refine go_run' ttok 3 rfl ?_
                    refine go_nil nd ?_
                    have e29 := of_some hz7
                    subst e29
                    refine then_norm ⟨rfl, (W64 (i + 1)), [], ⟨rfl, rfl, rfl, rfl, rfl, ⟨wkP_id _ rfl, trivial⟩, trivial⟩, hk8⟩
                · rw [g23]
                  replace hz7 := of_bif_f hz7 g23
                  refine go_run' ttok 8 rfl ?_
                  refine go_nil nd ?_
                  refine then_norm ?_
                  refine awp_cond rfl (fun h => by cases h) (fun tt0 => ?_)
                  clear tt0
                  refine awp_skip ?_
                  refine block_norm ?_
                  refine then_norm ?_
                  refine awp_go hmix ?_
                  refine go_run' ttok 3 rfl ?_
                  refine go_nil nd ?_
                  have e30 := of_some hz7
                  subst e30
                  refine then_norm ⟨rfl, (W64 (i + 1)), [], ⟨rfl, rfl, rfl, rfl, rfl, ⟨wkP_id _ rfl, trivial⟩, trivial⟩, hk8⟩
            · rw [g17]
              replace hz7 := of_bif_f hz7 g17
              refine go_run' ttok 16 rfl ?_
              refine go_nil nd ?_
              refine then_norm ?_
              refine awp_cond rfl (fun h => by cases h) (fun tt0 => ?_)
              clear tt0
              refine awp_skip ?_
              refine block_norm ?_
              refine then_norm ?_
              refine awp_go hmix ?_
              refine go_run' ttok 3 rfl ?_
              refine go_nil nd ?_
              have e31 := of_some hz7
              subst e31
              refine then_norm ⟨rfl, (W64 (i + 1)), [], ⟨rfl, rfl, rfl, rfl, rfl, ⟨wkP_id _ rfl, trivial⟩, trivial⟩, hk8⟩
        · replace hz7 := of_bif_f hz7 c9
          refine awp_exit ?_
          refine then_exit ?_
          obtain ⟨t4, hn32, hq⟩ := of_mapr' hz7
          subst hq
          have hq : t4 = _ := hk8
          subst hq
          refine then_exit ?_
          refine block_here ?_
          have e33 := of_some hn32
          refine then_norm ⟨rfl, (), [], ⟨rfl, rfl, rfl, rfl, rfl, trivial, trivial⟩, e33⟩
      · intro w hw6
        subst hw6
        replace h := of_inr h
        refine awp_seq ?_
        refine awp_go hmix ?_
        refine go_run' ttok 1 rfl ?_
        refine go_nil nd ?_
        refine then_norm ?_
        refine awp_ret ?_
        have e34 := of_some h
        subst e34
        refine ret_ret ?_
        refine fin0 ttok rfl rfl ?_
        exact (wkP_refl _ rfl)

/-- sawmill/sawmillref34.from -/
noncomputable def r34_from_g (n : Int) (low : Int) (high : Int) : Bool :=
  (bif (decide (low ≤ n)) then (decide (n ≤ high)) else false)
theorem r34_from_w (n : Int) (low : Int) (high : Int) (r : Bool) (h : r34_from_g n low high = r) : Holds Try.prog 81 [(I n), (I low), (I high)] [] (B r) [] := by
  unfold r34_from_g at h
  refine holds_fn Try.func81 rfl Try.ntmps81 rfl rfl rfl ?_
  refine awp_seq ?_
  refine awp_go hmix ?_
  refine go_run' ttok 1 rfl ?_
  refine go_nil nd ?_
  refine then_norm ?_
  refine awp_seq ?_
  refine awp_go hmix ?_
  refine go_run' ttok 4 rfl ?_
  refine go_gcase rfl rfl rfl (fun g1 => ?_) (fun g1 => ?_)
  · rw [g1]
    replace h := of_bif_t h g1
    refine go_run' ttok 5 rfl ?_
    refine go_nil nd ?_
    refine then_norm ?_
    refine awp_ret ?_
    have e2 := h
    subst e2
    refine ret_ret ?_
    refine fin0 ttok rfl rfl ?_
    exact (wkP_refl _ rfl)
  · rw [g1]
    replace h := of_bif_f h g1
    refine go_run' ttok 5 rfl ?_
    refine go_nil nd ?_
    refine then_norm ?_
    refine awp_ret ?_
    have e3 := h
    subst e3
    refine ret_ret ?_
    refine fin0 ttok rfl rfl ?_
    exact (wkP_refl _ rfl)

/-- sawmill/sawmillref34.valid -/
noncomputable def r34_valid_g (s : TSpecies) : Bool :=
  (bif (!(r34_from_g s.Green 3000 20000)) then false else (bif (!(r34_from_g s.Fast 1 10000)) then false else (bif (!(r34_from_g s.Slow 1 s.Fast)) then false else (bif (!(r34_from_g s.MaxGrad 1 20000)) then false else (bif (!(r34_from_g s.Safe 0 s.MaxGrad)) then false else (bif (!(r34_from_g s.Crack 1 1000000)) then false else (bif (!(r34_from_g s.MaxTemp 200 1200)) then false else (bif (!(r34_from_g s.MaxDepress 100 400)) then false else (bif (r34_from_g s.Density 200 1500) then (bif (r34_from_g s.Stiff 1000 30000) then (bif (r34_from_g s.KnotLoss 0 1000) then (r34_from_g s.Shrink 0 200) else false) else false) else false)))))))))
theorem r34_valid_w (s : TSpecies) (r : Bool) (h : r34_valid_g s = r) : Holds Try.prog 75 [(encTSpecies s)] [] (B r) [] := by
  unfold r34_valid_g at h
  refine holds_fn Try.func75 rfl Try.ntmps75 rfl rfl rfl ?_
  refine awp_seq ?_
  refine awp_go hmix ?_
  refine go_run' ttok 2 rfl ?_
  refine go_nil nd ?_
  refine then_norm ?_
  refine awp_seq ?_
  refine awp_seq ?_
  refine awp_go hmix ?_
  refine go_run' ttok 2 rfl ?_
  refine go_call fn81 (r34_from_w s.Green 3000 20000 _ rfl) rfl rfl rfl rfl rfl rfl rfl ?_
  refine go_run' ttok 2 rfl ?_
  refine go_gcase rfl rfl rfl (fun g1 => ?_) (fun g1 => ?_)
  · rw [g1]
    replace h := of_bif_t h g1
    refine go_run' ttok 33 rfl ?_
    refine go_nil nd ?_
    refine then_norm ?_
    refine awp_cond rfl (fun tt0 => ?_) (fun h => by cases h)
    clear tt0
    refine awp_seq ?_
    refine awp_go hmix ?_
    refine go_run' ttok 1 rfl ?_
    refine go_nil nd ?_
    refine then_norm ?_
    refine awp_ret ?_
    refine then_ret ?_
    have e2 := h
    subst e2
    refine ret_ret ?_
    refine fin0 ttok rfl rfl ?_
    exact (wkP_refl _ rfl)
  · rw [g1]
    replace h := of_bif_f h g1
    refine go_run' ttok 2 rfl ?_
    refine go_call fn81 (r34_from_w s.Fast 1 10000 _ rfl) rfl rfl rfl rfl rfl rfl rfl ?_
    refine go_run' ttok 3 rfl ?_
    refine go_gcase rfl rfl rfl (fun g3 => ?_) (fun g3 => ?_)
    · rw [g3]
      replace h := of_bif_t h g3
      refine go_run' ttok 27 rfl ?_
      refine go_nil nd ?_
      refine then_norm ?_
      refine awp_cond rfl (fun tt0 => ?_) (fun h => by cases h)
      clear tt0
      refine awp_seq ?_
      refine awp_go hmix ?_
      refine go_run' ttok 1 rfl ?_
      refine go_nil nd ?_
      refine then_norm ?_
      refine awp_ret ?_
      refine then_ret ?_
      have e4 := h
      subst e4
      refine ret_ret ?_
      refine fin0 ttok rfl rfl ?_
      exact (wkP_refl _ rfl)
    · rw [g3]
      replace h := of_bif_f h g3
      refine go_run' ttok 4 rfl ?_
      refine go_call fn81 (r34_from_w s.Slow 1 s.Fast _ rfl) rfl rfl rfl rfl rfl rfl rfl ?_
      refine go_run' ttok 3 rfl ?_
      refine go_gcase rfl rfl rfl (fun g5 => ?_) (fun g5 => ?_)
      · rw [g5]
        replace h := of_bif_t h g5
        refine go_run' ttok 19 rfl ?_
        refine go_nil nd ?_
        refine then_norm ?_
        refine awp_cond rfl (fun tt0 => ?_) (fun h => by cases h)
        clear tt0
        refine awp_seq ?_
        refine awp_go hmix ?_
        refine go_run' ttok 1 rfl ?_
        refine go_nil nd ?_
        refine then_norm ?_
        refine awp_ret ?_
        refine then_ret ?_
        have e6 := h
        subst e6
        refine ret_ret ?_
        refine fin0 ttok rfl rfl ?_
        exact (wkP_refl _ rfl)
      · rw [g5]
        replace h := of_bif_f h g5
        refine go_run' ttok 2 rfl ?_
        refine go_call fn81 (r34_from_w s.MaxGrad 1 20000 _ rfl) rfl rfl rfl rfl rfl rfl rfl ?_
        refine go_run' ttok 3 rfl ?_
        refine go_gcase rfl rfl rfl (fun g7 => ?_) (fun g7 => ?_)
        · rw [g7]
          replace h := of_bif_t h g7
          refine go_run' ttok 13 rfl ?_
          refine go_nil nd ?_
          refine then_norm ?_
          refine awp_cond rfl (fun tt0 => ?_) (fun h => by cases h)
          clear tt0
          refine awp_seq ?_
          refine awp_go hmix ?_
          refine go_run' ttok 1 rfl ?_
          refine go_nil nd ?_
          refine then_norm ?_
          refine awp_ret ?_
          refine then_ret ?_
          have e8 := h
          subst e8
          refine ret_ret ?_
          refine fin0 ttok rfl rfl ?_
          exact (wkP_refl _ rfl)
        · rw [g7]
          replace h := of_bif_f h g7
          refine go_run' ttok 4 rfl ?_
          refine go_call fn81 (r34_from_w s.Safe 0 s.MaxGrad _ rfl) rfl rfl rfl rfl rfl rfl rfl ?_
          refine go_run' ttok 3 rfl ?_
          refine go_gcase rfl rfl rfl (fun g9 => ?_) (fun g9 => ?_)
          · rw [g9]
            replace h := of_bif_t h g9
            refine go_run' ttok 5 rfl ?_
            refine go_nil nd ?_
            refine then_norm ?_
            refine awp_cond rfl (fun tt0 => ?_) (fun h => by cases h)
            clear tt0
            refine awp_seq ?_
            refine awp_go hmix ?_
            refine go_run' ttok 1 rfl ?_
            refine go_nil nd ?_
            refine then_norm ?_
            refine awp_ret ?_
            refine then_ret ?_
            have e10 := h
            subst e10
            refine ret_ret ?_
            refine fin0 ttok rfl rfl ?_
            exact (wkP_refl _ rfl)
          · rw [g9]
            replace h := of_bif_f h g9
            refine go_run' ttok 2 rfl ?_
            refine go_call fn81 (r34_from_w s.Crack 1 1000000 _ rfl) rfl rfl rfl rfl rfl rfl rfl ?_
            refine go_run' ttok 2 rfl ?_
            refine go_nil nd ?_
            refine then_norm ?_
            refine awp_cond (b := (!(r34_from_g s.Crack 1 1000000))) rfl (fun c11 => ?_) (fun c11 => ?_)
            · replace h := of_bif_t h c11
              refine awp_seq ?_
              refine awp_go hmix ?_
              refine go_run' ttok 1 rfl ?_
              refine go_nil nd ?_
              refine then_norm ?_
              refine awp_ret ?_
              refine then_ret ?_
              have e12 := h
              subst e12
              refine ret_ret ?_
              refine fin0 ttok rfl rfl ?_
              exact (wkP_refl _ rfl)
            · replace h := of_bif_f h c11
              refine awp_skip ?_
              refine then_norm ?_
              refine awp_seq ?_
              refine awp_seq ?_
              refine awp_go hmix ?_
              refine go_run' ttok 2 rfl ?_
              refine go_call fn81 (r34_from_w s.MaxTemp 200 1200 _ rfl) rfl rfl rfl rfl rfl rfl rfl ?_
              refine go_run' ttok 2 rfl ?_
              refine go_gcase rfl rfl rfl (fun g13 => ?_) (fun g13 => ?_)
              · rw [g13]
                replace h := of_bif_t h g13
                refine go_run' ttok 5 rfl ?_
                refine go_nil nd ?_
                refine then_norm ?_
                refine awp_cond rfl (fun tt0 => ?_) (fun h => by cases h)
                clear tt0
                refine awp_seq ?_
                refine awp_go hmix ?_
                refine go_run' ttok 1 rfl ?_
                refine go_nil nd ?_
                refine then_norm ?_
                refine awp_ret ?_
                refine then_ret ?_
                have e14 := h
                subst e14
                refine ret_ret ?_
                refine fin0 ttok rfl rfl ?_
                exact (wkP_refl _ rfl)
              · rw [g13]
                replace h := of_bif_f h g13
                refine go_run' ttok 2 rfl ?_
                refine go_call fn81 (r34_from_w s.MaxDepress 100 400 _ rfl) rfl rfl rfl rfl rfl rfl rfl ?_
                refine go_run' ttok 2 rfl ?_
                refine go_nil nd ?_
                refine then_norm ?_
                refine awp_cond (b := (!(r34_from_g s.MaxDepress 100 400))) rfl (fun c15 => ?_) (fun c15 => ?_)
                · replace h := of_bif_t h c15
                  refine awp_seq ?_
                  refine awp_go hmix ?_
                  refine go_run' ttok 1 rfl ?_
                  refine go_nil nd ?_
                  refine then_norm ?_
                  refine awp_ret ?_
                  refine then_ret ?_
                  have e16 := h
                  subst e16
                  refine ret_ret ?_
                  refine fin0 ttok rfl rfl ?_
                  exact (wkP_refl _ rfl)
                · replace h := of_bif_f h c15
                  refine awp_skip ?_
                  refine then_norm ?_
                  refine awp_seq ?_
                  refine awp_go hmix ?_
                  refine go_run' ttok 2 rfl ?_
                  refine go_call fn81 (r34_from_w s.Density 200 1500 _ rfl) rfl rfl rfl rfl rfl rfl rfl ?_
                  refine go_run' ttok 1 rfl ?_
                  refine go_gcase rfl rfl rfl (fun g17 => ?_) (fun g17 => ?_)
                  · rw [g17]
                    replace h := of_bif_t h g17
                    refine go_run' ttok 2 rfl ?_
                    refine go_call fn81 (r34_from_w s.Stiff 1000 30000 _ rfl) rfl rfl rfl rfl rfl rfl rfl ?_
                    refine go_run' ttok 2 rfl ?_
                    refine go_gcase rfl rfl rfl (fun g18 => ?_) (fun g18 => ?_)
                    · rw [g18]
                      replace h := of_bif_t h g18
                      refine go_run' ttok 2 rfl ?_
                      refine go_call fn81 (r34_from_w s.KnotLoss 0 1000 _ rfl) rfl rfl rfl rfl rfl rfl rfl ?_
                      refine go_run' ttok 2 rfl ?_
                      refine go_gcase rfl rfl rfl (fun g19 => ?_) (fun g19 => ?_)
                      · rw [g19]
                        replace h := of_bif_t h g19
                        refine go_run' ttok 2 rfl ?_
                        refine go_call fn81 (r34_from_w s.Shrink 0 200 _ rfl) rfl rfl rfl rfl rfl rfl rfl ?_
                        refine go_run' ttok 2 rfl ?_
                        refine go_nil nd ?_
                        refine then_norm ?_
                        refine awp_ret ?_
                        have e20 := h
                        subst e20
                        refine ret_ret ?_
                        refine fin0 ttok rfl rfl ?_
                        exact (wkP_refl _ rfl)
                      · rw [g19]
                        replace h := of_bif_f h g19
                        refine go_run' ttok 5 rfl ?_
                        refine go_nil nd ?_
                        refine then_norm ?_
                        refine awp_ret ?_
                        have e21 := h
                        subst e21
                        refine ret_ret ?_
                        refine fin0 ttok rfl rfl ?_
                        exact (wkP_refl _ rfl)
                    · rw [g18]
                      replace h := of_bif_f h g18
                      refine go_run' ttok 10 rfl ?_
                      refine go_nil nd ?_
                      refine then_norm ?_
                      refine awp_ret ?_
                      have e22 := h
                      subst e22
                      refine ret_ret ?_
                      refine fin0 ttok rfl rfl ?_
                      exact (wkP_refl _ rfl)
                  · rw [g17]
                    replace h := of_bif_f h g17
                    refine go_run' ttok 15 rfl ?_
                    refine go_nil nd ?_
                    refine then_norm ?_
                    refine awp_ret ?_
                    have e23 := h
                    subst e23
                    refine ret_ret ?_
                    refine fin0 ttok rfl rfl ?_
                    exact (wkP_refl _ rfl)

noncomputable def r34_Check_s2 (l : (List TSpecies)) (i : Int) (k : Int) : Option (Int ⊕ (((Int ⊕ (Int ⊕ Unit)) ⊕ Unit) ⊕ Unit)) :=
  (bif (decide (k < i)) then (Option.bind (getI l k) (fun e1 => (Option.bind (getI l i) (fun e2 => (bif (bEq e1.Name e2.Name) then some (Sum.inr (Sum.inl (Sum.inl (Sum.inr (Sum.inl 7))))) else some (Sum.inl (W64 (k + 1)))))))) else some (Sum.inr (Sum.inr ())))
noncomputable def r34_Check_s1 (l : (List TSpecies)) (i : Int) : Option (Int ⊕ (Int ⊕ Unit)) :=
  (bif (decide (i < ((l.length : Nat) : Int))) then (Option.bind ((Option.bind (getI l i) (fun e => (Option.bind (r02_IsName_g e.Name) (fun iv => (bif (!iv) then some (Sum.inl (Sum.inr (Sum.inl 6))) else (Option.bind ((loopO (fun q => r34_Check_s2 l i q) 0) : Option (((Int ⊕ (Int ⊕ Unit)) ⊕ Unit) ⊕ Unit)) (Sum.elim (fun q => some q) (fun _ => (Option.bind (getI l i) (fun e3 => (bif (!(r34_valid_g e3)) then some (Sum.inl (Sum.inr (Sum.inl 9))) else some (Sum.inr ())))))))))))) : Option ((Int ⊕ (Int ⊕ Unit)) ⊕ Unit)) (Sum.elim (fun q => some q) (fun _ => some (Sum.inl (W64 (i + 1)))))) else some (Sum.inr (Sum.inr ())))
/-- sawmill/sawmillref34.Check -/
noncomputable def r34_Check_g (l : (List TSpecies)) : Option Int :=
  (bif (decide (8 < ((l.length : Nat) : Int))) then some 4 else (Option.bind ((loopO (fun q => r34_Check_s1 l q) 0) : Option (Int ⊕ Unit)) (Sum.elim (fun q => some q) (fun _ => some 0))))
theorem r34_Check_w (l : (List TSpecies)) (r : Int) (h : r34_Check_g l = some r) : Holds Try.prog 54 [((encL encTSpecies) l)] [] (I r) [] := by
  unfold r34_Check_g at h
  refine holds_fn Try.func54 rfl Try.ntmps54 rfl rfl rfl ?_
  refine awp_seq ?_
  refine awp_go hmix ?_
  refine go_run' ttok 1 rfl ?_
  refine go_nil nd ?_
  refine then_norm ?_
  refine awp_seq ?_
  refine awp_seq ?_
  refine awp_go hmix ?_
  refine go_run' ttok 1 rfl ?_
  refine go_lenT encTSpecies l ttok rfl rfl rfl rfl rfl rfl ?_
  refine go_run' ttok 1 rfl ?_
  refine go_nil nd ?_
  refine then_norm ?_
  refine awp_cond (b := (decide (8 < ((l.length : Nat) : Int)))) rfl (fun c1 => ?_) (fun c1 => ?_)
  · replace h := of_bif_t h c1
    refine awp_seq ?_
    refine awp_go hmix ?_
    refine go_run' ttok 1 rfl ?_
    refine go_nil nd ?_
    refine then_norm ?_
    refine awp_ret ?_
    refine then_ret ?_
    have e2 := of_some h
    subst e2
    refine ret_ret ?_
    refine fin0 ttok rfl rfl ?_
    exact (wkP_refl _ rfl)
  · replace h := of_bif_f h c1
    refine awp_skip ?_
    refine then_norm ?_
    obtain ⟨y, hx3, h⟩ := of_obind h
    refine awp_seqJ (X := Unit) [] [] (fun _ => []) (fun _ => []) (fun w => Sum.inr w = y) rfl rfl ?_ ?_
    · skip
      refine awp_seq ?_
      refine awp_go hmix ?_
      refine go_run' ttok 1 rfl ?_
      refine go_nil nd ?_
      refine then_norm ?_
      refine awp_block ?_
      refine awp_loopD (X := Int) (Y := (Int ⊕ Unit)) [0] [] (fun q => [(3, (I q))]) (fun q => []) (fun q => r34_Check_s1 l q) 0 [] hx3 ⟨rfl, rfl, rfl, rfl, rfl, ⟨wkP_id _ rfl, trivial⟩, trivial⟩ (fun i vR vz hz5 hk6 => ?_)
      change r34_Check_s1 l i = _ at hz5
      unfold r34_Check_s1 at hz5
      refine awp_seq ?_
      refine awp_seq ?_
      refine awp_go hmix ?_
      refine go_run' ttok 2 rfl ?_
      refine go_lenT encTSpecies l ttok rfl rfl rfl rfl rfl rfl ?_
      refine go_run' ttok 1 rfl ?_
      refine go_nil nd ?_
      refine then_norm ?_
      refine awp_cond (b := (decide (i < ((l.length : Nat) : Int)))) rfl (fun c7 => ?_) (fun c7 => ?_)
      · replace hz5 := of_bif_t hz5 c7
        refine awp_skip ?_
        refine then_norm ?_
        obtain ⟨y1, hx8, hz5⟩ := of_obind hz5
        refine awp_seqJ (X := Unit) [0, 3] [] (fun _ => []) (fun _ => []) (fun w1 => Sum.inr w1 = y1) rfl rfl ?_ ?_
        · skip
          refine awp_block ?_
          refine awp_seq ?_
          refine awp_seq ?_
          refine awp_go hmix ?_
          refine go_run' ttok 2 rfl ?_
          obtain ⟨e, hv10, hx8⟩ := of_obind hx8
          refine go_indexT encTSpecies l i e hv10 ttok rfl rfl rfl rfl rfl rfl rfl rfl rfl ?_
          refine go_run' ttok 2 rfl ?_
          obtain ⟨iv, hv11, hx8⟩ := of_obind hx8
          refine go_call fn74 (r02_IsName_w e.Name iv hv11) rfl rfl rfl rfl rfl rfl rfl ?_
          refine go_run' ttok 1 rfl ?_
          refine go_nil nd ?_
          refine then_norm ?_
          refine awp_cond (b := (!iv)) rfl (fun c12 => ?_) (fun c12 => ?_)
          · replace hx8 := of_bif_t hx8 c12
            refine awp_seq ?_
            refine awp_go hmix ?_
            refine go_run' ttok 1 rfl ?_
            refine go_nil nd ?_
            refine then_norm ?_
            refine awp_ret ?_
            refine then_ret ?_
            refine block_ret ?_
            obtain ⟨t, hn13, hq⟩ := of_mapl' hx8
            subst hq
            have hq := of_inl hz5
            replace hq := of_some hq
            subst hq
            refine then_ret ?_
            obtain ⟨t1, hn14, hq⟩ := of_mapr' hn13
            subst hq
            have hq : t1 = _ := hk6
            subst hq
            refine then_ret ?_
            refine block_ret ?_
            obtain ⟨t2, hn15, hq⟩ := of_mapl' hn14
            subst hq
            have hq := of_inl h
            replace hq := of_some hq
            subst hq
            refine then_ret ?_
            have e16 := of_some hn15
            subst e16
            refine ret_ret ?_
            refine fin0 ttok rfl rfl ?_
            exact (wkP_refl _ rfl)
          · replace hx8 := of_bif_f hx8 c12
            refine awp_skip ?_
            refine then_norm ?_
            obtain ⟨y2, hx17, hx8⟩ := of_obind hx8
            refine awp_seqJ (X := Unit) [0, 3] [] (fun _ => []) (fun _ => []) (fun w2 => Sum.inr w2 = y2) rfl rfl ?_ ?_
            · skip
              refine awp_seq ?_
              refine awp_go hmix ?_
              refine go_run' ttok 1 rfl ?_
              refine go_nil nd ?_
              refine then_norm ?_
              refine awp_block ?_
              refine awp_loopD (X := Int) (Y := (((Int ⊕ (Int ⊕ Unit)) ⊕ Unit) ⊕ Unit)) [0, 3] [] (fun q => [(4, (I q))]) (fun q => []) (fun q => r34_Check_s2 l i q) 0 [] hx17 ⟨rfl, rfl, rfl, rfl, rfl, ⟨wkP_id _ rfl, trivial⟩, trivial⟩ (fun k vR1 vz1 hz19 hk20 => ?_)
              change r34_Check_s2 l i k = _ at hz19
              unfold r34_Check_s2 at hz19
              refine awp_seq ?_
              refine awp_seq ?_
              refine awp_go hmix ?_
              refine go_run' ttok 3 rfl ?_
              refine go_nil nd ?_
              refine then_norm ?_
              refine awp_cond (b := (decide (k < i))) rfl (fun c21 => ?_) (fun c21 => ?_)
              · replace hz19 := of_bif_t hz19 c21
                refine awp_skip ?_
                refine then_norm ?_
                refine awp_seq ?_
                refine awp_block ?_
                refine awp_seq ?_
                refine awp_go hmix ?_
                refine go_run' ttok 2 rfl ?_
                obtain ⟨e1, hv22, hz19⟩ := of_obind hz19
                refine go_indexT encTSpecies l k e1 hv22 ttok rfl rfl rfl rfl rfl rfl rfl rfl rfl ?_
                refine go_run' ttok 4 rfl ?_
                obtain ⟨e2, hv23, hz19⟩ := of_obind hz19
                refine go_indexT encTSpecies l i e2 hv23 ttok rfl rfl rfl rfl rfl rfl rfl rfl rfl ?_
                refine go_run' ttok 2 rfl ?_
                refine go_eqlS e1.Name e2.Name rfl rfl rfl rfl rfl ?_
                refine go_nil (fun _ => by kernel_rfl) ?_
                refine then_norm ?_
                refine awp_cond (b := (bEq e1.Name e2.Name)) rfl (fun c24 => ?_) (fun c24 => ?_)
                · replace hz19 := of_bif_t hz19 c24
                  refine awp_seq ?_
                  refine awp_go hmix ?_
                  refine go_run' ttok 1 rfl ?_
                  refine go_nil nd ?_
                  refine then_norm ?_
                  refine awp_ret ?_
                  refine block_ret ?_
                  refine then_ret ?_
                  obtain ⟨t3, hn25, hq⟩ := of_mapr' hz19
                  subst hq
                  have hq : t3 = _ := hk20
                  subst hq
                  refine then_ret ?_
                  refine block_ret ?_
                  obtain ⟨t4, hn26, hq⟩ := of_mapl' hn25
                  subst hq
                  have hq := of_inl hx8
                  replace hq := of_some hq
                  subst hq
                  refine then_ret ?_
                  refine block_ret ?_
                  obtain ⟨t5, hn27, hq⟩ := of_mapl' hn26
                  subst hq
                  have hq := of_inl hz5
                  replace hq := of_some hq
                  subst hq
                  refine then_ret ?_
                  obtain ⟨t6, hn28, hq⟩ := of_mapr' hn27
                  subst hq
                  have hq : t6 = _ := hk6
                  subst hq
                  refine then_ret ?_
                  refine block_ret ?_
                  obtain ⟨t7, hn29, hq⟩ := of_mapl' hn28
                  subst hq
                  have hq := of_inl h
                  replace hq := of_some hq
                  subst hq
                  refine then_ret ?_
                  have e30 := of_some hn29
                  subst e30
                  refine ret_ret ?_
                  refine fin0 ttok rfl rfl ?_
                  exact (wkP_refl _ rfl)
                · replace hz19 := of_bif_f hz19 c24
                  refine awp_skip ?_
                  refine block_norm ?_
                  refine then_norm ?_
                  refine awp_go hmix ?_
                  refine go_run' ttok 3 rfl ?_
                  refine go_nil nd ?_
                  have e31 := of_some hz19
                  subst e31
                  refine then_norm ⟨rfl, (W64 (k + 1)), [], ⟨rfl, rfl, rfl, rfl, rfl, ⟨wkP_id _ rfl, trivial⟩, trivial⟩, hk20⟩
              · replace hz19 := of_bif_f hz19 c21
                refine awp_exit ?_
                refine then_exit ?_
                obtain ⟨t8, hn32, hq⟩ := of_mapr' hz19
                subst hq
                have hq : t8 = _ := hk20
                subst hq
                refine then_exit ?_
                refine block_here ?_
                have e33 := of_some hn32
                refine then_norm ⟨rfl, (), [], ⟨rfl, rfl, rfl, rfl, rfl, trivial, trivial⟩, e33⟩
            · intro w2 hw18
              subst hw18
              replace hx8 := of_inr hx8
              refine awp_seq ?_
              refine awp_go hmix ?_
              refine go_run' ttok 2 rfl ?_
              obtain ⟨e3, hv34, hx8⟩ := of_obind hx8
              refine go_indexT encTSpecies l i e3 hv34 ttok rfl rfl rfl rfl rfl rfl rfl rfl rfl ?_
              refine go_run' ttok 1 rfl ?_
              refine go_call fn75 (r34_valid_w e3 _ rfl) rfl rfl rfl rfl rfl rfl rfl ?_
              refine go_run' ttok 1 rfl ?_
              refine go_nil nd ?_
              refine then_norm ?_
              refine awp_cond (b := (!(r34_valid_g e3))) rfl (fun c35 => ?_) (fun c35 => ?_)
              · replace hx8 := of_bif_t hx8 c35
                refine awp_seq ?_
                refine awp_go hmix ?_
                refine go_run' ttok 1 rfl ?_
                refine go_nil nd ?_
                refine then_norm ?_
                refine awp_ret ?_
                refine block_ret ?_
                obtain ⟨t9, hn36, hq⟩ := of_mapl' hx8
                subst hq
                have hq := of_inl hz5
                replace hq := of_some hq
                subst hq
                refine then_ret ?_
                obtain ⟨t10, hn37, hq⟩ := of_mapr' hn36
                subst hq
                have hq : t10 = _ := hk6
                subst hq
                refine then_ret ?_
                refine block_ret ?_
                obtain ⟨t11, hn38, hq⟩ := of_mapl' hn37
                subst hq
                have hq := of_inl h
                replace hq := of_some hq
                subst hq
                refine then_ret ?_
                have e39 := of_some hn38
                subst e39
                refine ret_ret ?_
                refine fin0 ttok rfl rfl ?_
                exact (wkP_refl _ rfl)
              · replace hx8 := of_bif_f hx8 c35
                refine awp_skip ?_
                refine block_norm ?_
                have e40 := of_some hx8
                refine then_norm ⟨rfl, (), [], ⟨rfl, rfl, rfl, rfl, rfl, trivial, trivial⟩, e40⟩
        · intro w1 hw9
          subst hw9
          replace hz5 := of_inr hz5
          refine awp_go hmix ?_
          refine go_run' ttok 3 rfl ?_
          refine go_nil nd ?_
          have e41 := of_some hz5
          subst e41
          refine then_norm ⟨rfl, (W64 (i + 1)), [], ⟨rfl, rfl, rfl, rfl, rfl, ⟨wkP_id _ rfl, trivial⟩, trivial⟩, hk6⟩
      · replace hz5 := of_bif_f hz5 c7
        refine awp_exit ?_
        refine then_exit ?_
        obtain ⟨t12, hn42, hq⟩ := of_mapr' hz5
        subst hq
        have hq : t12 = _ := hk6
        subst hq
        refine then_exit ?_
        refine block_here ?_
        have e43 := of_some hn42
        refine then_norm ⟨rfl, (), [], ⟨rfl, rfl, rfl, rfl, rfl, trivial, trivial⟩, e43⟩
    · intro w hw4
      subst hw4
      replace h := of_inr h
      refine awp_seq ?_
      refine awp_go hmix ?_
      refine go_run' ttok 1 rfl ?_
      refine go_nil nd ?_
      refine then_norm ?_
      refine awp_ret ?_
      have e44 := of_some h
      subst e44
      refine ret_ret ?_
      refine fin0 ttok rfl rfl ?_
      exact (wkP_refl _ rfl)

/-- sawmill/sawmillref41.Right -/
noncomputable def r41_Right_g (b : TBoard) (s : TSpecies) : Option Bool :=
  (Option.bind (r13_Check_g b.Defects) (fun cv => (bif (cv == 0) then (bif (decide (1 ≤ (r41_Width_g b))) then (bif (decide ((r41_Width_g b) ≤ 1200)) then (bif ((r36_Check_g b.Cell) == 0) then (Option.bind (r34_Check_g ([s])) (fun cv1 => some (cv1 == 0))) else some false) else some false) else some false) else some false)))
theorem r41_Right_w (b : TBoard) (s : TSpecies) (r : Bool) (h : r41_Right_g b s = some r) : Holds Try.prog 16 [(encTBoard b), (encTSpecies s)] [] (B r) [] := by
  unfold r41_Right_g at h
  refine holds_fn Try.func16 rfl Try.ntmps16 rfl rfl rfl ?_
  refine awp_seq ?_
  refine awp_go hmix ?_
  refine go_run' ttok 3 rfl ?_
  refine go_nil nd ?_
  refine then_norm ?_
  refine awp_seq ?_
  refine awp_go hmix ?_
  refine go_run' ttok 2 rfl ?_
  obtain ⟨cv, hv1, h⟩ := of_obind h
  refine go_call fn26 (r13_Check_w b.Defects cv hv1) rfl rfl rfl rfl rfl rfl rfl ?_
  refine go_run' ttok 2 rfl ?_
  refine go_gcase rfl rfl rfl (fun g2 => ?_) (fun g2 => ?_)
  · rw [g2]
    replace h := of_bif_t h g2
    refine go_run' ttok 1 rfl ?_
    refine go_call fn52 (r41_Width_w b _ rfl) rfl rfl rfl rfl rfl rfl rfl ?_
    refine go_run' ttok 3 rfl ?_
    refine go_gcase rfl rfl rfl (fun g3 => ?_) (fun g3 => ?_)
    · rw [g3]
      replace h := of_bif_t h g3
      refine go_run' ttok 1 rfl ?_
      refine go_call fn52 (r41_Width_w b _ rfl) rfl rfl rfl rfl rfl rfl rfl ?_
      refine go_run' ttok 3 rfl ?_
      refine go_gcase rfl rfl rfl (fun g4 => ?_) (fun g4 => ?_)
      · rw [g4]
        replace h := of_bif_t h g4
        refine go_run' ttok 2 rfl ?_
        refine go_call fn53 (r36_Check_w b.Cell _ rfl) rfl rfl rfl rfl rfl rfl rfl ?_
        refine go_run' ttok 3 rfl ?_
        refine go_gcase rfl rfl rfl (fun g5 => ?_) (fun g5 => ?_)
        · rw [g5]
          replace h := of_bif_t h g5
          refine go_run' ttok 2 rfl ?_
          obtain ⟨cv1, hv6, h⟩ := of_obind h
          refine go_callL (L := [(27, some ⟨32, 13, ([s]).map encTSpecies⟩)]) fn54 (r34_Check_w ([s]) cv1 hv6) rfl rfl rfl ⟨rfl, List.not_mem_nil, trivial⟩ ⟨(wkP_lend rfl (by first | rfl | simp [setI]) (fun _ => rfl)), trivial⟩ rfl rfl (fun _ => rfl) rfl ?_
          refine go_run' ttok 3 rfl ?_
          refine go_nil nd ?_
          refine then_norm ?_
          refine awp_ret ?_
          have e7 := of_some h
          subst e7
          refine ret_ret ?_
          refine fin0 ttok rfl rfl ?_
          exact (wkP_refl _ rfl)
        · rw [g5]
          replace h := of_bif_f h g5
          refine go_run' ttok 6 rfl ?_
          refine go_nil nd ?_
          refine then_norm ?_
          refine awp_ret ?_
          have e8 := of_some h
          subst e8
          refine ret_ret ?_
          refine fin0 ttok rfl rfl ?_
          exact (wkP_refl _ rfl)
      · rw [g4]
        replace h := of_bif_f h g4
        refine go_run' ttok 12 rfl ?_
        refine go_nil nd ?_
        refine then_norm ?_
        refine awp_ret ?_
        have e9 := of_some h
        subst e9
        refine ret_ret ?_
        refine fin0 ttok rfl rfl ?_
        exact (wkP_refl _ rfl)
    · rw [g3]
      replace h := of_bif_f h g3
      refine go_run' ttok 17 rfl ?_
      refine go_nil nd ?_
      refine then_norm ?_
      refine awp_ret ?_
      have e10 := of_some h
      subst e10
      refine ret_ret ?_
      refine fin0 ttok rfl rfl ?_
      exact (wkP_refl _ rfl)
  · rw [g2]
    replace h := of_bif_f h g2
    refine go_run' ttok 22 rfl ?_
    refine go_nil nd ?_
    refine then_norm ?_
    refine awp_ret ?_
    have e11 := of_some h
    subst e11
    refine ret_ret ?_
    refine fin0 ttok rfl rfl ?_
    exact (wkP_refl _ rfl)

/-- sawmill/sawmilllaw41.example -/
noncomputable def l41_example_g : (TBoard × TSpecies) :=
  ((⟨(⟨#[]⟩ : ByteArray), (⟨#[]⟩ : ByteArray), (⟨#[]⟩ : ByteArray), 0, (⟨(⟨0, 100⟩ : Sp), (⟨0, 40⟩ : Sp), (⟨0, 2000⟩ : Sp)⟩ : Bx), 0, [(⟨1, (⟨(⟨0, 20⟩ : Sp), (⟨0, 5⟩ : Sp), (⟨100, 120⟩ : Sp)⟩ : Bx)⟩ : Df), (⟨2, (⟨(⟨50, 60⟩ : Sp), (⟨0, 5⟩ : Sp), (⟨200, 210⟩ : Sp)⟩ : Bx)⟩ : Df)], 0, (⟨1800, 1800, 0⟩ : TCell), false, 0⟩ : TBoard), (⟨(⟨#[112, 105, 110, 101]⟩ : ByteArray), 6000, 100, 50, 300, 800, 1000, 700, 250, 500, 11000, 500, 80⟩ : TSpecies))
theorem l41_example_w (r : (TBoard × TSpecies)) (h : l41_example_g = r) : Holds Try.prog 55 [] [] (.tup [(encTBoard r.1), (encTSpecies r.2)]) [] := by
  unfold l41_example_g at h
  refine holds_fn Try.func55 rfl Try.ntmps55 rfl rfl rfl ?_
  refine awp_seq ?_
  refine awp_go hmix ?_
  refine go_run' ttok 2 rfl ?_
  refine go_nil nd ?_
  refine then_norm ?_
  refine awp_seq ?_
  refine awp_go hmix ?_
  refine go_run' ttok 8 rfl ?_
  refine go_nil nd ?_
  refine then_norm ?_
  refine awp_seq ?_
  refine awp_go hmix ?_
  refine go_run' ttok 13 rfl ?_
  refine go_nil nd ?_
  refine then_norm ?_
  refine awp_seq ?_
  refine awp_go hmix ?_
  refine go_run' ttok 4 rfl ?_
  refine go_nil nd ?_
  refine then_norm ?_
  refine awp_freezeM [0, 1] [1] [(19, some ⟨41, 7, ([(⟨1, (⟨(⟨0, 20⟩ : Sp), (⟨0, 5⟩ : Sp), (⟨100, 120⟩ : Sp)⟩ : Bx)⟩ : Df), (⟨2, (⟨(⟨50, 60⟩ : Sp), (⟨0, 5⟩ : Sp), (⟨200, 210⟩ : Sp)⟩ : Bx)⟩ : Df)]).map encDf⟩)] [(0, some 0), (1, some 1)] [] [(0, some ⟨30, 18, [(.agg [(S (⟨#[]⟩ : ByteArray)), (S (⟨#[]⟩ : ByteArray)), (S (⟨#[]⟩ : ByteArray)), (I 0), (I 0), (I 100), (I 0), (I 40), (I 0), (I 2000), (I 0), (encL encDf ([(⟨1, (⟨(⟨0, 20⟩ : Sp), (⟨0, 5⟩ : Sp), (⟨100, 120⟩ : Sp)⟩ : Bx)⟩ : Df), (⟨2, (⟨(⟨50, 60⟩ : Sp), (⟨0, 5⟩ : Sp), (⟨200, 210⟩ : Sp)⟩ : Bx)⟩ : Df)])), (I 0), (I 1800), (I 1800), (I 0), (B false), (I 0)])]⟩)] rfl rfl rfl rfl rfl ⟨rfl, by decide, trivial⟩ trivial ⟨⟨_, rfl, rfl, rfl, .inr ⟨⟨⟨(wkP_id _ rfl), (wkP_id _ rfl), (wkP_id _ rfl), (wkP_id _ rfl), (wkP_id _ rfl), (wkP_id _ rfl), (wkP_id _ rfl), (wkP_id _ rfl), (wkP_id _ rfl), (wkP_id _ rfl), (wkP_id _ rfl), (wkP_lend rfl (by first | rfl | simp [setI]) (fun _ => rfl)), (wkP_id _ rfl), (wkP_id _ rfl), (wkP_id _ rfl), (wkP_id _ rfl), (wkP_id _ rfl), (wkP_id _ rfl), trivial⟩, trivial⟩, ⟨rfl, trivial⟩⟩⟩, trivial⟩ ?_
  refine awp_ret ?_
  have e1 := h
  subst e1
  refine ret_ret ?_
  refine fin0 ttok rfl rfl ?_
  exact wkP_refl _ rfl

/-- sawmill/span.size -/
noncomputable def span_size_g (s : Sp) : Int :=
  (bif (decide (s.b ≤ s.a)) then 0 else (WU64 ((WU64 s.b) - (WU64 s.a))))
theorem span_size_w (s : Sp) (r : Int) (h : span_size_g s = r) : Holds Try.prog 77 [(encSp s)] [] (U64 r) [] := by
  unfold span_size_g at h
  refine holds_fn Try.func77 rfl Try.ntmps77 rfl rfl rfl ?_
  refine awp_seq ?_
  refine awp_go hmix ?_
  refine go_run' ttok 2 rfl ?_
  refine go_nil nd ?_
  refine then_norm ?_
  refine awp_seq ?_
  refine awp_seq ?_
  refine awp_go hmix ?_
  refine go_run' ttok 5 rfl ?_
  refine go_nil nd ?_
  refine then_norm ?_
  refine awp_cond (b := (decide (s.b ≤ s.a))) rfl (fun c1 => ?_) (fun c1 => ?_)
  · replace h := of_bif_t h c1
    refine awp_seq ?_
    refine awp_go hmix ?_
    refine go_run' ttok 1 rfl ?_
    refine go_nil nd ?_
    refine then_norm ?_
    refine awp_ret ?_
    refine then_ret ?_
    have e2 := h
    subst e2
    refine ret_ret ?_
    refine fin0 ttok rfl rfl ?_
    exact (wkP_refl _ rfl)
  · replace h := of_bif_f h c1
    refine awp_skip ?_
    refine then_norm ?_
    refine awp_seq ?_
    refine awp_go hmix ?_
    refine go_run' ttok 8 rfl ?_
    refine go_nil nd ?_
    refine then_norm ?_
    refine awp_ret ?_
    have e3 := h
    subst e3
    refine ret_ret ?_
    refine fin0 ttok rfl rfl ?_
    exact (wkP_refl _ rfl)

/-- sawmill/span.limited -/
noncomputable def span_limited_g (n : Int) : Int :=
  (W64 (min n 9223372036854775807))
theorem span_limited_w (n : Int) (r : Int) (h : span_limited_g n = r) : Holds Try.prog 76 [(U64 n)] [] (I r) [] := by
  unfold span_limited_g at h
  refine holds_fn Try.func76 rfl Try.ntmps76 rfl rfl rfl ?_
  refine awp_seq ?_
  refine awp_go hmix ?_
  refine go_run' ttok 1 rfl ?_
  refine go_nil nd ?_
  refine then_norm ?_
  refine awp_seq ?_
  refine awp_go hmix ?_
  refine go_run' ttok 4 rfl ?_
  refine go_nil nd ?_
  refine then_norm ?_
  refine awp_ret ?_
  have e1 := h
  subst e1
  refine ret_ret ?_
  refine fin0 ttok rfl rfl ?_
  exact (wkP_refl _ rfl)

/-- sawmill/span.Len -/
noncomputable def span_Len_g (s : Sp) : Int :=
  (span_limited_g (span_size_g s))
theorem span_Len_w (s : Sp) (r : Int) (h : span_Len_g s = r) : Holds Try.prog 56 [(encSp s)] [] (I r) [] := by
  unfold span_Len_g at h
  refine holds_fn Try.func56 rfl Try.ntmps56 rfl rfl rfl ?_
  refine awp_seq ?_
  refine awp_go hmix ?_
  refine go_run' ttok 2 rfl ?_
  refine go_nil nd ?_
  refine then_norm ?_
  refine awp_seq ?_
  refine awp_go hmix ?_
  refine go_run' ttok 1 rfl ?_
  refine go_call fn77 (span_size_w s _ rfl) rfl rfl rfl rfl rfl rfl rfl ?_
  refine go_call fn76 (span_limited_w (span_size_g s) _ rfl) rfl rfl rfl rfl rfl rfl rfl ?_
  refine go_run' ttok 1 rfl ?_
  refine go_nil nd ?_
  refine then_norm ?_
  refine awp_ret ?_
  have e1 := h
  subst e1
  refine ret_ret ?_
  refine fin0 ttok rfl rfl ?_
  exact (wkP_refl _ rfl)

/-- sawmill/defect.isEmpty -/
noncomputable def defect_isEmpty_g (s : Sp) : Bool :=
  (decide (s.b ≤ s.a))
theorem defect_isEmpty_w (s : Sp) (r : Bool) (h : defect_isEmpty_g s = r) : Holds Try.prog 69 [(encSp s)] [] (B r) [] := by
  unfold defect_isEmpty_g at h
  refine holds_fn Try.func69 rfl Try.ntmps69 rfl rfl rfl ?_
  refine awp_seq ?_
  refine awp_go hmix ?_
  refine go_run' ttok 2 rfl ?_
  refine go_nil nd ?_
  refine then_norm ?_
  refine awp_seq ?_
  refine awp_go hmix ?_
  refine go_run' ttok 6 rfl ?_
  refine go_nil nd ?_
  refine then_norm ?_
  refine awp_ret ?_
  have e1 := h
  subst e1
  refine ret_ret ?_
  refine fin0 ttok rfl rfl ?_
  exact (wkP_refl _ rfl)

/-- sawmill/defect.inside -/
noncomputable def defect_inside_g (s : Sp) (low : Int) (high : Int) : Bool :=
  (bif (decide (low ≤ (min s.a s.b))) then (decide ((max s.a s.b) ≤ high)) else false)
theorem defect_inside_w (s : Sp) (low : Int) (high : Int) (r : Bool) (h : defect_inside_g s low high = r) : Holds Try.prog 63 [(encSp s), (I low), (I high)] [] (B r) [] := by
  unfold defect_inside_g at h
  refine holds_fn Try.func63 rfl Try.ntmps63 rfl rfl rfl ?_
  refine awp_seq ?_
  refine awp_go hmix ?_
  refine go_run' ttok 2 rfl ?_
  refine go_nil nd ?_
  refine then_norm ?_
  refine awp_seq ?_
  refine awp_go hmix ?_
  refine go_run' ttok 8 rfl ?_
  refine go_gcase rfl rfl rfl (fun g1 => ?_) (fun g1 => ?_)
  · rw [g1]
    replace h := of_bif_t h g1
    refine go_run' ttok 9 rfl ?_
    refine go_nil nd ?_
    refine then_norm ?_
    refine awp_ret ?_
    have e2 := h
    subst e2
    refine ret_ret ?_
    refine fin0 ttok rfl rfl ?_
    exact (wkP_refl _ rfl)
  · rw [g1]
    replace h := of_bif_f h g1
    refine go_run' ttok 9 rfl ?_
    refine go_nil nd ?_
    refine then_norm ?_
    refine awp_ret ?_
    have e3 := h
    subst e3
    refine ret_ret ?_
    refine fin0 ttok rfl rfl ?_
    exact (wkP_refl _ rfl)

/-- sawmill/defect.check -/
noncomputable def defect_check_g (d : Df) : Int :=
  (letB ((bif (decide (d.k < 1)) then true else (decide (6 < d.k))) : Bool) (fun vv => (bif vv then 10 else (letB ((bif (defect_isEmpty_g d.b.x) then true else (bif (defect_isEmpty_g d.b.y) then true else (defect_isEmpty_g d.b.z))) : Bool) (fun vv1 => (bif vv1 then 19 else (bif (!(defect_inside_g d.b.x (-600) 600)) then 9 else (bif (!(defect_inside_g d.b.y (-600) 600)) then 9 else (bif (!(defect_inside_g d.b.z 0 20000)) then 9 else 0)))))))))
theorem defect_check_w (d : Df) (r : Int) (h : defect_check_g d = r) : Holds Try.prog 61 [(encDf d)] [] (I r) [] := by
  unfold defect_check_g at h
  refine holds_fn Try.func61 rfl Try.ntmps61 rfl rfl rfl ?_
  refine awp_seq ?_
  refine awp_go hmix ?_
  refine go_run' ttok 2 rfl ?_
  refine go_nil nd ?_
  refine then_norm ?_
  refine awp_seq ?_
  refine awp_go hmix ?_
  refine go_run' ttok 4 rfl ?_
  refine go_nil nd ?_
  refine then_norm ?_
  refine awp_seq ?_
  refine awp_block ?_
  obtain ⟨y, hx1, h⟩ := of_let h
  refine awp_seqJ (X := Bool) [3] [3] (fun w => [(6, (B w))]) (fun w => []) (fun w => w = y) rfl rfl ?_ ?_
  · skip
    refine awp_go hmix ?_
    refine go_run' ttok 4 rfl ?_
    refine go_gcase rfl rfl rfl (fun g3 => ?_) (fun g3 => ?_)
    · rw [g3]
      replace hx1 := of_bif_t hx1 g3
      refine go_run' ttok 5 rfl ?_
      refine go_nil nd ?_
      have e4 := hx1
      refine then_norm ⟨rfl, true, [(3, some 3)], ⟨rfl, rfl, rfl, rfl, rfl, ⟨wkP_id _ rfl, trivial⟩, trivial⟩, e4⟩
    · rw [g3]
      replace hx1 := of_bif_f hx1 g3
      refine go_run' ttok 5 rfl ?_
      refine go_nil nd ?_
      have e5 := hx1
      refine then_norm ⟨rfl, (decide (6 < d.k)), [(3, some 3)], ⟨rfl, rfl, rfl, rfl, rfl, ⟨wkP_id _ rfl, trivial⟩, trivial⟩, e5⟩
  · intro vv hw2
    subst hw2
    refine awp_cond (b := vv) rfl (fun c6 => ?_) (fun c6 => ?_)
    · replace h := of_bif_t h c6
      refine awp_seq ?_
      refine awp_go hmix ?_
      refine go_run' ttok 1 rfl ?_
      refine go_nil nd ?_
      refine then_norm ?_
      refine awp_ret ?_
      refine block_ret ?_
      refine then_ret ?_
      have e7 := h
      subst e7
      refine ret_ret ?_
      refine fin0 ttok rfl rfl ?_
      exact (wkP_refl _ rfl)
    · replace h := of_bif_f h c6
      obtain ⟨y1, hx8, h⟩ := of_let h
      refine awp_seqJ (X := Bool) [3] [3] (fun w1 => [(15, (B w1))]) (fun w1 => []) (fun w1 => w1 = y1) rfl rfl ?_ ?_
      · skip
        refine awp_go hmix ?_
        refine go_run' ttok 2 rfl ?_
        refine go_call fn69 (defect_isEmpty_w d.b.x _ rfl) rfl rfl rfl rfl rfl rfl rfl ?_
        refine go_run' ttok 1 rfl ?_
        refine go_gcase rfl rfl rfl (fun g10 => ?_) (fun g10 => ?_)
        · rw [g10]
          replace hx8 := of_bif_t hx8 g10
          refine go_run' ttok 10 rfl ?_
          refine go_nil nd ?_
          have e11 := hx8
          refine then_norm ⟨rfl, true, [(3, some 3)], ⟨rfl, rfl, rfl, rfl, rfl, ⟨wkP_id _ rfl, trivial⟩, trivial⟩, e11⟩
        · rw [g10]
          replace hx8 := of_bif_f hx8 g10
          refine go_run' ttok 2 rfl ?_
          refine go_call fn69 (defect_isEmpty_w d.b.y _ rfl) rfl rfl rfl rfl rfl rfl rfl ?_
          refine go_run' ttok 2 rfl ?_
          refine go_gcase rfl rfl rfl (fun g12 => ?_) (fun g12 => ?_)
          · rw [g12]
            replace hx8 := of_bif_t hx8 g12
            refine go_run' ttok 5 rfl ?_
            refine go_nil nd ?_
            have e13 := hx8
            refine then_norm ⟨rfl, true, [(3, some 3)], ⟨rfl, rfl, rfl, rfl, rfl, ⟨wkP_id _ rfl, trivial⟩, trivial⟩, e13⟩
          · rw [g12]
            replace hx8 := of_bif_f hx8 g12
            refine go_run' ttok 2 rfl ?_
            refine go_call fn69 (defect_isEmpty_w d.b.z _ rfl) rfl rfl rfl rfl rfl rfl rfl ?_
            refine go_run' ttok 2 rfl ?_
            refine go_nil nd ?_
            have e14 := hx8
            refine then_norm ⟨rfl, (defect_isEmpty_g d.b.z), [(3, some 3)], ⟨rfl, rfl, rfl, rfl, rfl, ⟨wkP_id _ rfl, trivial⟩, trivial⟩, e14⟩
      · intro vv1 hw9
        subst hw9
        refine awp_cond (b := vv1) rfl (fun c15 => ?_) (fun c15 => ?_)
        · replace h := of_bif_t h c15
          refine awp_seq ?_
          refine awp_go hmix ?_
          refine go_run' ttok 1 rfl ?_
          refine go_nil nd ?_
          refine then_norm ?_
          refine awp_ret ?_
          refine block_ret ?_
          refine then_ret ?_
          have e16 := h
          subst e16
          refine ret_ret ?_
          refine fin0 ttok rfl rfl ?_
          exact (wkP_refl _ rfl)
        · replace h := of_bif_f h c15
          refine awp_seq ?_
          refine awp_go hmix ?_
          refine go_run' ttok 2 rfl ?_
          refine go_call fn63 (defect_inside_w d.b.x (-600) 600 _ rfl) rfl rfl rfl rfl rfl rfl rfl ?_
          refine go_run' ttok 2 rfl ?_
          refine go_gcase rfl rfl rfl (fun g17 => ?_) (fun g17 => ?_)
          · rw [g17]
            replace h := of_bif_t h g17
            refine go_run' ttok 12 rfl ?_
            refine go_nil nd ?_
            refine then_norm ?_
            refine awp_cond rfl (fun tt0 => ?_) (fun h => by cases h)
            clear tt0
            refine awp_seq ?_
            refine awp_go hmix ?_
            refine go_run' ttok 1 rfl ?_
            refine go_nil nd ?_
            refine then_norm ?_
            refine awp_ret ?_
            refine block_ret ?_
            refine then_ret ?_
            have e18 := h
            subst e18
            refine ret_ret ?_
            refine fin0 ttok rfl rfl ?_
            exact (wkP_refl _ rfl)
          · rw [g17]
            replace h := of_bif_f h g17
            refine go_run' ttok 2 rfl ?_
            refine go_call fn63 (defect_inside_w d.b.y (-600) 600 _ rfl) rfl rfl rfl rfl rfl rfl rfl ?_
            refine go_run' ttok 3 rfl ?_
            refine go_gcase rfl rfl rfl (fun g19 => ?_) (fun g19 => ?_)
            · rw [g19]
              replace h := of_bif_t h g19
              refine go_run' ttok 6 rfl ?_
              refine go_nil nd ?_
              refine then_norm ?_
              refine awp_cond rfl (fun tt0 => ?_) (fun h => by cases h)
              clear tt0
              refine awp_seq ?_
              refine awp_go hmix ?_
              refine go_run' ttok 1 rfl ?_
              refine go_nil nd ?_
              refine then_norm ?_
              refine awp_ret ?_
              refine block_ret ?_
              refine then_ret ?_
              have e20 := h
              subst e20
              refine ret_ret ?_
              refine fin0 ttok rfl rfl ?_
              exact (wkP_refl _ rfl)
            · rw [g19]
              replace h := of_bif_f h g19
              refine go_run' ttok 2 rfl ?_
              refine go_call fn63 (defect_inside_w d.b.z 0 20000 _ rfl) rfl rfl rfl rfl rfl rfl rfl ?_
              refine go_run' ttok 3 rfl ?_
              refine go_nil nd ?_
              refine then_norm ?_
              refine awp_cond (b := (!(defect_inside_g d.b.z 0 20000))) rfl (fun c21 => ?_) (fun c21 => ?_)
              · replace h := of_bif_t h c21
                refine awp_seq ?_
                refine awp_go hmix ?_
                refine go_run' ttok 1 rfl ?_
                refine go_nil nd ?_
                refine then_norm ?_
                refine awp_ret ?_
                refine block_ret ?_
                refine then_ret ?_
                have e22 := h
                subst e22
                refine ret_ret ?_
                refine fin0 ttok rfl rfl ?_
                exact (wkP_refl _ rfl)
              · replace h := of_bif_f h c21
                refine awp_skip ?_
                refine block_norm ?_
                refine then_norm ?_
                refine awp_seq ?_
                refine awp_go hmix ?_
                refine go_run' ttok 1 rfl ?_
                refine go_nil nd ?_
                refine then_norm ?_
                refine awp_ret ?_
                have e23 := h
                subst e23
                refine ret_ret ?_
                refine fin0 ttok rfl rfl ?_
                exact (wkP_refl _ rfl)

noncomputable def defect_Check_s1 (l : (List Df)) (vv : Int) : Option (Int ⊕ (Int ⊕ Unit)) :=
  (bif (decide (vv < ((l.length : Nat) : Int))) then (Option.bind (getI l vv) (fun e => (bif ((defect_check_g e) != 0) then some (Sum.inr (Sum.inl (defect_check_g e))) else some (Sum.inl (W64 (vv + 1)))))) else some (Sum.inr (Sum.inr ())))
/-- sawmill/defect.Check -/
noncomputable def defect_Check_g (l : (List Df)) : Option Int :=
  (bif (decide (64 < ((l.length : Nat) : Int))) then some 4 else (Option.bind ((loopO (fun q => defect_Check_s1 l q) 0) : Option (Int ⊕ Unit)) (Sum.elim (fun q => some q) (fun _ => some 0))))
theorem defect_Check_w (l : (List Df)) (r : Int) (h : defect_Check_g l = some r) : Holds Try.prog 33 [((encL encDf) l)] [] (I r) [] := by
  unfold defect_Check_g at h
  refine holds_fn Try.func33 rfl Try.ntmps33 rfl rfl rfl ?_
  refine awp_seq ?_
  refine awp_go hmix ?_
  refine go_run' ttok 1 rfl ?_
  refine go_nil nd ?_
  refine then_norm ?_
  refine awp_seq ?_
  refine awp_seq ?_
  refine awp_go hmix ?_
  refine go_run' ttok 1 rfl ?_
  refine go_lenT encDf l ttok rfl rfl rfl rfl rfl rfl ?_
  refine go_run' ttok 1 rfl ?_
  refine go_nil nd ?_
  refine then_norm ?_
  refine awp_cond (b := (decide (64 < ((l.length : Nat) : Int)))) rfl (fun c1 => ?_) (fun c1 => ?_)
  · replace h := of_bif_t h c1
    refine awp_seq ?_
    refine awp_go hmix ?_
    refine go_run' ttok 1 rfl ?_
    refine go_nil nd ?_
    refine then_norm ?_
    refine awp_ret ?_
    refine then_ret ?_
    have e2 := of_some h
    subst e2
    refine ret_ret ?_
    refine fin0 ttok rfl rfl ?_
    exact (wkP_refl _ rfl)
  · replace h := of_bif_f h c1
    refine awp_skip ?_
    refine then_norm ?_
    obtain ⟨y, hx3, h⟩ := of_obind h
    refine awp_seqJ (X := Unit) [] [] (fun _ => []) (fun _ => []) (fun w => Sum.inr w = y) rfl rfl ?_ ?_
    · skip
      refine awp_seq ?_
      refine awp_go hmix ?_
      refine go_run' ttok 1 rfl ?_
      refine go_lenT encDf l ttok rfl rfl rfl rfl rfl rfl ?_
      refine go_run' ttok 1 rfl ?_
      refine go_nil nd ?_
      refine then_norm ?_
      refine awp_block ?_
      refine awp_loopD (X := Int) (Y := (Int ⊕ Unit)) [9, 10] [] (fun q => [(11, (I q))]) (fun q => []) (fun q => defect_Check_s1 l q) 0 [] hx3 ⟨rfl, rfl, rfl, rfl, rfl, ⟨wkP_id _ rfl, trivial⟩, trivial⟩ (fun vv vR vz hz5 hk6 => ?_)
      change defect_Check_s1 l vv = _ at hz5
      unfold defect_Check_s1 at hz5
      refine awp_seq ?_
      refine awp_go hmix ?_
      refine go_run' ttok 1 rfl ?_
      refine go_nil nd ?_
      refine then_norm ?_
      refine awp_seq ?_
      refine awp_cond (b := (decide (vv < ((l.length : Nat) : Int)))) rfl (fun c7 => ?_) (fun c7 => ?_)
      · replace hz5 := of_bif_t hz5 c7
        refine awp_skip ?_
        refine then_norm ?_
        refine awp_seq ?_
        refine awp_block ?_
        refine awp_seq ?_
        refine awp_go hmix ?_
        obtain ⟨e, hv8, hz5⟩ := of_obind hz5
        refine go_indexT encDf l vv e hv8 ttok rfl rfl rfl rfl rfl rfl rfl rfl rfl ?_
        refine go_run' ttok 3 rfl ?_
        refine go_nil nd ?_
        refine then_norm ?_
        refine awp_seq ?_
        refine awp_go hmix ?_
        refine go_run' ttok 1 rfl ?_
        refine go_call fn61 (defect_check_w e _ rfl) rfl rfl rfl rfl rfl rfl rfl ?_
        refine go_run' ttok 1 rfl ?_
        refine go_nil nd ?_
        refine then_norm ?_
        refine awp_seq ?_
        refine awp_go hmix ?_
        refine go_run' ttok 2 rfl ?_
        refine go_nil nd ?_
        refine then_norm ?_
        refine awp_cond (b := ((defect_check_g e) != 0)) rfl (fun c9 => ?_) (fun c9 => ?_)
        · replace hz5 := of_bif_t hz5 c9
          refine awp_seq ?_
          refine awp_go hmix ?_
          refine go_run' ttok 2 rfl ?_
          refine go_nil nd ?_
          refine then_norm ?_
          refine awp_ret ?_
          refine block_ret ?_
          refine then_ret ?_
          obtain ⟨t, hn10, hq⟩ := of_mapr' hz5
          subst hq
          have hq : t = _ := hk6
          subst hq
          refine then_ret ?_
          refine block_ret ?_
          obtain ⟨t1, hn11, hq⟩ := of_mapl' hn10
          subst hq
          have hq := of_inl h
          replace hq := of_some hq
          subst hq
          refine then_ret ?_
          have e12 := of_some hn11
          subst e12
          refine ret_ret ?_
          refine fin0 ttok rfl rfl ?_
          exact (wkP_refl _ rfl)
        · replace hz5 := of_bif_f hz5 c9
          refine awp_skip ?_
          refine block_norm ?_
          refine then_norm ?_
          refine awp_go hmix ?_
          refine go_run' ttok 2 rfl ?_
          refine go_nil nd ?_
          have e13 := of_some hz5
          subst e13
          refine then_norm ⟨rfl, (W64 (vv + 1)), [], ⟨rfl, rfl, rfl, rfl, rfl, ⟨wkP_id _ rfl, trivial⟩, trivial⟩, hk6⟩
      · replace hz5 := of_bif_f hz5 c7
        refine awp_exit ?_
        refine then_exit ?_
        obtain ⟨t2, hn14, hq⟩ := of_mapr' hz5
        subst hq
        have hq : t2 = _ := hk6
        subst hq
        refine then_exit ?_
        refine block_here ?_
        have e15 := of_some hn14
        refine then_norm ⟨rfl, (), [], ⟨rfl, rfl, rfl, rfl, rfl, trivial, trivial⟩, e15⟩
    · intro w hw4
      subst hw4
      replace h := of_inr h
      refine awp_seq ?_
      refine awp_go hmix ?_
      refine go_run' ttok 1 rfl ?_
      refine go_nil nd ?_
      refine then_norm ?_
      refine awp_ret ?_
      have e16 := of_some h
      subst e16
      refine ret_ret ?_
      refine fin0 ttok rfl rfl ?_
      exact (wkP_refl _ rfl)
noncomputable def defect_Check_cs1 (N : Nat) (l : (List Df)) (vv : Int) : Option (Int ⊕ (Int ⊕ Unit)) :=
  (bif (decide (vv < ((l.length : Nat) : Int))) then (Option.bind (getI l vv) (fun e => (bif ((defect_check_g e) != 0) then some (Sum.inr (Sum.inl (defect_check_g e))) else some (Sum.inl (W64 (vv + 1)))))) else some (Sum.inr (Sum.inr ())))
theorem defect_Check_cs1_le (N : Nat) (l : (List Df)) (vv : Int) : OLe (defect_Check_cs1 N l vv) (defect_Check_s1 l vv) := by
  unfold defect_Check_cs1 defect_Check_s1
  repeat' (first | exact ole_rfl | refine ole_bif ?_ ?_ | refine ole_bind ?_ (fun _ => ?_) | refine ole_let (fun _ => ?_) | refine ole_map ?_ | refine ole_elim (fun _ => ?_) (fun _ => ?_) | refine ole_loop (fun _ => ?_))
noncomputable def defect_Check_c (N : Nat) (l : (List Df)) : Option Int :=
  (bif (decide (64 < ((l.length : Nat) : Int))) then some 4 else (Option.bind ((iterX N (fun q => defect_Check_cs1 N l q) 0) : Option (Int ⊕ Unit)) (Sum.elim (fun q => some q) (fun _ => some 0))))
theorem defect_Check_le (N : Nat) (l : (List Df)) : OLe (defect_Check_c N l) (defect_Check_g l) := by
  unfold defect_Check_c defect_Check_g
  repeat' (first | exact ole_rfl | exact defect_Check_cs1_le _ _ _ | refine ole_bif ?_ ?_ | refine ole_bind ?_ (fun _ => ?_) | refine ole_let (fun _ => ?_) | refine ole_map ?_ | refine ole_elim (fun _ => ?_) (fun _ => ?_) | refine ole_loop (fun _ => ?_))

/-- sawmill/defect.isKnot -/
noncomputable def defect_isKnot_g (d : Df) : Bool :=
  (bif (d.k == 1) then true else (d.k == 2))
theorem defect_isKnot_w (d : Df) (r : Bool) (h : defect_isKnot_g d = r) : Holds Try.prog 68 [(encDf d)] [] (B r) [] := by
  unfold defect_isKnot_g at h
  refine holds_fn Try.func68 rfl Try.ntmps68 rfl rfl rfl ?_
  refine awp_seq ?_
  refine awp_go hmix ?_
  refine go_run' ttok 2 rfl ?_
  refine go_nil nd ?_
  refine then_norm ?_
  refine awp_seq ?_
  refine awp_go hmix ?_
  refine go_run' ttok 4 rfl ?_
  refine go_gcase rfl rfl rfl (fun g1 => ?_) (fun g1 => ?_)
  · rw [g1]
    replace h := of_bif_t h g1
    refine go_run' ttok 5 rfl ?_
    refine go_nil nd ?_
    refine then_norm ?_
    refine awp_ret ?_
    have e2 := h
    subst e2
    refine ret_ret ?_
    refine fin0 ttok rfl rfl ?_
    exact (wkP_refl _ rfl)
  · rw [g1]
    replace h := of_bif_f h g1
    refine go_run' ttok 5 rfl ?_
    refine go_nil nd ?_
    refine then_norm ?_
    refine awp_ret ?_
    have e3 := h
    subst e3
    refine ret_ret ?_
    refine fin0 ttok rfl rfl ?_
    exact (wkP_refl _ rfl)

/-- sawmill/span.Meet -/
noncomputable def span_Meet_g (a : Sp) (b : Sp) : Sp :=
  (bif (decide ((min a.b b.b) ≤ (max a.a b.a))) then (⟨0, 0⟩ : Sp) else (⟨(max a.a b.a), (min a.b b.b)⟩ : Sp))
theorem span_Meet_w (a : Sp) (b : Sp) (r : Sp) (h : span_Meet_g a b = r) : Holds Try.prog 70 [(encSp a), (encSp b)] [] (encSp r) [] := by
  unfold span_Meet_g at h
  refine holds_fn Try.func70 rfl Try.ntmps70 rfl rfl rfl ?_
  refine awp_seq ?_
  refine awp_go hmix ?_
  refine go_run' ttok 3 rfl ?_
  refine go_nil nd ?_
  refine then_norm ?_
  refine awp_seq ?_
  refine awp_go hmix ?_
  refine go_run' ttok 13 rfl ?_
  refine go_nil nd ?_
  refine then_norm ?_
  refine awp_seq ?_
  refine awp_seq ?_
  refine awp_go hmix ?_
  refine go_run' ttok 5 rfl ?_
  refine go_nil nd ?_
  refine then_norm ?_
  refine awp_cond (b := (decide ((min a.b b.b) ≤ (max a.a b.a)))) rfl (fun c1 => ?_) (fun c1 => ?_)
  · replace h := of_bif_t h c1
    refine awp_seq ?_
    refine awp_go hmix ?_
    refine go_run' ttok 2 rfl ?_
    refine go_nil nd ?_
    refine then_norm ?_
    refine awp_ret ?_
    refine then_ret ?_
    have e2 := h
    subst e2
    refine ret_ret ?_
    refine fin0 ttok rfl rfl ?_
    exact (wkP_refl _ rfl)
  · replace h := of_bif_f h c1
    refine awp_skip ?_
    refine then_norm ?_
    refine awp_seq ?_
    refine awp_go hmix ?_
    refine go_run' ttok 2 rfl ?_
    refine go_nil nd ?_
    refine then_norm ?_
    refine awp_ret ?_
    have e3 := h
    subst e3
    refine ret_ret ?_
    refine fin0 ttok rfl rfl ?_
    exact (wkP_refl _ rfl)

/-- sawmill/defect.Size -/
noncomputable def defect_Size_g (d : Df) : Int :=
  (max (span_Len_g d.b.x) (span_Len_g d.b.y))
theorem defect_Size_w (d : Df) (r : Int) (h : defect_Size_g d = r) : Holds Try.prog 31 [(encDf d)] [] (I r) [] := by
  unfold defect_Size_g at h
  refine holds_fn Try.func31 rfl Try.ntmps31 rfl rfl rfl ?_
  refine awp_seq ?_
  refine awp_go hmix ?_
  refine go_run' ttok 2 rfl ?_
  refine go_nil nd ?_
  refine then_norm ?_
  refine awp_seq ?_
  refine awp_go hmix ?_
  refine go_run' ttok 3 rfl ?_
  refine go_call fn56 (span_Len_w d.b.x _ rfl) rfl rfl rfl rfl rfl rfl rfl ?_
  refine go_run' ttok 3 rfl ?_
  refine go_call fn56 (span_Len_w d.b.y _ rfl) rfl rfl rfl rfl rfl rfl rfl ?_
  refine go_run' ttok 2 rfl ?_
  refine go_nil (fun _ => by kernel_rfl) ?_
  refine then_norm ?_
  refine awp_ret ?_
  have e1 := h
  subst e1
  refine ret_ret ?_
  refine fin0 ttok rfl rfl ?_
  exact (wkP_refl _ rfl)

noncomputable def defect_Worst_s2 (l : (List Df)) (window : Int) (e : Df) (vsum1 : Int) (vv1 : Int) : Option ((Int × Int) ⊕ Int) :=
  (bif (decide (vv1 < ((l.length : Nat) : Int))) then (Option.bind (getI l vv1) (fun e1 => (bif (defect_isKnot_g e1) then (letB (span_Meet_g e1.b.z (⟨(W64 ((W64 (e.b.z.a - window)) + 1)), (W64 ((W64 ((W64 (e.b.z.a - window)) + 1)) + window))⟩ : Sp)) (fun mv => (bif (!(defect_isEmpty_g mv)) then some (Sum.inl ((W64 (vsum1 + (defect_Size_g e1))), (W64 (vv1 + 1)))) else some (Sum.inl (vsum1, (W64 (vv1 + 1))))))) else some (Sum.inl (vsum1, (W64 (vv1 + 1))))))) else some (Sum.inr vsum1))
noncomputable def defect_Worst_s1 (l : (List Df)) (window : Int) (worst1 : Int) (vv : Int) : Option ((Int × Int) ⊕ Int) :=
  (bif (decide (vv < ((l.length : Nat) : Int))) then (Option.bind ((Option.bind (getI l vv) (fun e => (Option.bind ((loopO (fun q => defect_Worst_s2 l window e q.1 q.2) (0, 0)) : Option Int) (fun vsum => some (max worst1 vsum))))) : Option Int) (fun worst2 => some (Sum.inl (worst2, (W64 (vv + 1)))))) else some (Sum.inr worst1))
/-- sawmill/defect.Worst -/
noncomputable def defect_Worst_g (l : (List Df)) (window : Int) : Option Int :=
  (Option.bind (defect_Check_g l) (fun cv => (bif (cv != 0) then some 0 else (bif (decide (window < 1)) then some 0 else (bif (decide (20000 < window)) then some 0 else (Option.bind ((loopO (fun q => defect_Worst_s1 l window q.1 q.2) (0, 0)) : Option Int) (fun worst => some worst)))))))
theorem defect_Worst_w (l : (List Df)) (window : Int) (r : Int) (h : defect_Worst_g l window = some r) : Holds Try.prog 45 [((encL encDf) l), (I window)] [] (I r) [] := by
  unfold defect_Worst_g at h
  refine holds_fn Try.func45 rfl Try.ntmps45 rfl rfl rfl ?_
  refine awp_seq ?_
  refine awp_go hmix ?_
  refine go_run' ttok 1 rfl ?_
  refine go_nil nd ?_
  refine then_norm ?_
  refine awp_seq ?_
  refine awp_seq ?_
  refine awp_go hmix ?_
  refine go_run' ttok 1 rfl ?_
  obtain ⟨cv, hv1, h⟩ := of_obind h
  refine go_call fn33 (defect_Check_w l cv hv1) rfl rfl rfl rfl rfl rfl rfl ?_
  refine go_run' ttok 2 rfl ?_
  refine go_gcase rfl rfl rfl (fun g2 => ?_) (fun g2 => ?_)
  · rw [g2]
    replace h := of_bif_t h g2
    refine go_run' ttok 7 rfl ?_
    refine go_nil nd ?_
    refine then_norm ?_
    refine awp_cond rfl (fun tt0 => ?_) (fun h => by cases h)
    clear tt0
    refine awp_seq ?_
    refine awp_go hmix ?_
    refine go_run' ttok 1 rfl ?_
    refine go_nil nd ?_
    refine then_norm ?_
    refine awp_ret ?_
    refine then_ret ?_
    have e3 := of_some h
    subst e3
    refine ret_ret ?_
    refine fin0 ttok rfl rfl ?_
    exact (wkP_refl _ rfl)
  · rw [g2]
    replace h := of_bif_f h g2
    refine go_run' ttok 4 rfl ?_
    refine go_gcase rfl rfl rfl (fun g4 => ?_) (fun g4 => ?_)
    · rw [g4]
      replace h := of_bif_t h g4
      refine go_run' ttok 3 rfl ?_
      refine go_nil nd ?_
      refine then_norm ?_
      refine awp_cond rfl (fun tt0 => ?_) (fun h => by cases h)
      clear tt0
      refine awp_seq ?_
      refine awp_go hmix ?_
      refine go_run' ttok 1 rfl ?_
      refine go_nil nd ?_
      refine then_norm ?_
      refine awp_ret ?_
      refine then_ret ?_
      have e5 := of_some h
      subst e5
      refine ret_ret ?_
      refine fin0 ttok rfl rfl ?_
      exact (wkP_refl _ rfl)
    · rw [g4]
      replace h := of_bif_f h g4
      refine go_run' ttok 3 rfl ?_
      refine go_nil nd ?_
      refine then_norm ?_
      refine awp_cond (b := (decide (20000 < window))) rfl (fun c6 => ?_) (fun c6 => ?_)
      · replace h := of_bif_t h c6
        refine awp_seq ?_
        refine awp_go hmix ?_
        refine go_run' ttok 1 rfl ?_
        refine go_nil nd ?_
        refine then_norm ?_
        refine awp_ret ?_
        refine then_ret ?_
        have e7 := of_some h
        subst e7
        refine ret_ret ?_
        refine fin0 ttok rfl rfl ?_
        exact (wkP_refl _ rfl)
      · replace h := of_bif_f h c6
        refine awp_skip ?_
        refine then_norm ?_
        refine awp_seq ?_
        refine awp_go hmix ?_
        refine go_run' ttok 1 rfl ?_
        refine go_nil nd ?_
        refine then_norm ?_
        obtain ⟨y, hx8, h⟩ := of_obind h
        refine awp_seqJ (X := Int) [] [] (fun w => [(5, (I w))]) (fun w => []) (fun w => w = y) rfl rfl ?_ ?_
        · skip
          refine awp_seq ?_
          refine awp_go hmix ?_
          refine go_run' ttok 1 rfl ?_
          refine go_lenT encDf l ttok rfl rfl rfl rfl rfl rfl ?_
          refine go_run' ttok 1 rfl ?_
          refine go_nil nd ?_
          refine then_norm ?_
          refine awp_block ?_
          refine awp_loopD (X := (Int × Int)) (Y := Int) [0, 1, 24, 25] [] (fun q => [(5, (I q.1)), (26, (I q.2))]) (fun q => []) (fun q => defect_Worst_s1 l window q.1 q.2) (0, 0) [] hx8 ⟨rfl, rfl, rfl, rfl, rfl, ⟨wkP_id _ rfl, wkP_id _ rfl, trivial⟩, trivial⟩ (fun x vR vz hz10 hk11 => ?_)
          obtain ⟨worst1, vv⟩ := x
          change defect_Worst_s1 l window worst1 vv = _ at hz10
          unfold defect_Worst_s1 at hz10
          refine awp_seq ?_
          refine awp_go hmix ?_
          refine go_run' ttok 1 rfl ?_
          refine go_nil nd ?_
          refine then_norm ?_
          refine awp_seq ?_
          refine awp_cond (b := (decide (vv < ((l.length : Nat) : Int)))) rfl (fun c12 => ?_) (fun c12 => ?_)
          · replace hz10 := of_bif_t hz10 c12
            refine awp_skip ?_
            refine then_norm ?_
            obtain ⟨y1, hx13, hz10⟩ := of_obind hz10
            refine awp_seqJ (X := Int) [0, 1, 24, 25, 26] [] (fun w1 => [(5, (I w1))]) (fun w1 => []) (fun w1 => w1 = y1) rfl rfl ?_ ?_
            · skip
              refine awp_block ?_
              refine awp_seq ?_
              refine awp_go hmix ?_
              obtain ⟨e, hv15, hx13⟩ := of_obind hx13
              refine go_indexT encDf l vv e hv15 ttok rfl rfl rfl rfl rfl rfl rfl rfl rfl ?_
              refine go_run' ttok 3 rfl ?_
              refine go_nil nd ?_
              refine then_norm ?_
              refine awp_seq ?_
              refine awp_go hmix ?_
              refine go_run' ttok 8 rfl ?_
              refine go_nil nd ?_
              refine then_norm ?_
              refine awp_seq ?_
              refine awp_go hmix ?_
              refine go_run' ttok 7 rfl ?_
              refine go_nil nd ?_
              refine then_norm ?_
              refine awp_seq ?_
              refine awp_go hmix ?_
              refine go_run' ttok 1 rfl ?_
              refine go_nil nd ?_
              refine then_norm ?_
              obtain ⟨y2, hx16, hx13⟩ := of_obind hx13
              refine awp_seqJ (X := Int) [0, 1, 5, 24, 25, 26] [] (fun w2 => [(10, (I w2))]) (fun w2 => []) (fun w2 => w2 = y2) rfl rfl ?_ ?_
              · skip
                refine awp_seq ?_
                refine awp_go hmix ?_
                refine go_run' ttok 1 rfl ?_
                refine go_lenT encDf l ttok rfl rfl rfl rfl rfl rfl ?_
                refine go_run' ttok 1 rfl ?_
                refine go_nil nd ?_
                refine then_norm ?_
                refine awp_block ?_
                refine awp_loopD (X := (Int × Int)) (Y := Int) [0, 1, 5, 9, 24, 25, 26, 42, 43] [9] (fun q => [(10, (I q.1)), (44, (I q.2))]) (fun q => []) (fun q => defect_Worst_s2 l window e q.1 q.2) (0, 0) [(9, some 9)] hx16 ⟨rfl, rfl, rfl, rfl, rfl, ⟨wkP_id _ rfl, wkP_id _ rfl, trivial⟩, trivial⟩ (fun x1 vR1 vz1 hz18 hk19 => ?_)
                obtain ⟨vsum1, vv1⟩ := x1
                change defect_Worst_s2 l window e vsum1 vv1 = _ at hz18
                unfold defect_Worst_s2 at hz18
                refine awp_seq ?_
                refine awp_go hmix ?_
                refine go_run' ttok 1 rfl ?_
                refine go_nil nd ?_
                refine then_norm ?_
                refine awp_seq ?_
                refine awp_cond (b := (decide (vv1 < ((l.length : Nat) : Int)))) rfl (fun c20 => ?_) (fun c20 => ?_)
                · replace hz18 := of_bif_t hz18 c20
                  refine awp_skip ?_
                  refine then_norm ?_
                  refine awp_seq ?_
                  refine awp_block ?_
                  refine awp_seq ?_
                  refine awp_go hmix ?_
                  obtain ⟨e1, hv21, hz18⟩ := of_obind hz18
                  refine go_indexT encDf l vv1 e1 hv21 ttok rfl rfl rfl rfl rfl rfl rfl rfl rfl ?_
                  refine go_run' ttok 3 rfl ?_
                  refine go_nil nd ?_
                  refine then_norm ?_
                  refine awp_seq ?_
                  refine awp_go hmix ?_
                  refine go_run' ttok 1 rfl ?_
                  refine go_call fn68 (defect_isKnot_w e1 _ rfl) rfl rfl rfl rfl rfl rfl rfl ?_
                  refine go_run' ttok 1 rfl ?_
                  refine go_gcase rfl rfl rfl (fun g22 => ?_) (fun g22 => ?_)
                  · rw [g22]
                    replace hz18 := of_bif_t hz18 g22
                    refine go_run' ttok 4 rfl ?_
                    obtain ⟨mv, hv23, hz18⟩ := of_let hz18
                    refine go_call fn70 (span_Meet_w e1.b.z (⟨(W64 ((W64 (e.b.z.a - window)) + 1)), (W64 ((W64 ((W64 (e.b.z.a - window)) + 1)) + window))⟩ : Sp) mv hv23) rfl rfl rfl rfl rfl rfl rfl ?_
                    refine go_call fn69 (defect_isEmpty_w mv _ rfl) rfl rfl rfl rfl rfl rfl rfl ?_
                    refine go_run' ttok 2 rfl ?_
                    refine go_nil nd ?_
                    refine then_norm ?_
                    refine awp_cond (b := (!(defect_isEmpty_g mv))) rfl (fun c24 => ?_) (fun c24 => ?_)
                    · replace hz18 := of_bif_t hz18 c24
                      refine awp_go hmix ?_
                      refine go_run' ttok 2 rfl ?_
                      refine go_call fn31 (defect_Size_w e1 _ rfl) rfl rfl rfl rfl rfl rfl rfl ?_
                      refine go_run' ttok 2 rfl ?_
                      refine go_nil nd ?_
                      refine block_norm ?_
                      refine then_norm ?_
                      refine awp_go hmix ?_
                      refine go_run' ttok 2 rfl ?_
                      refine go_nil nd ?_
                      have e25 := of_some hz18
                      subst e25
                      refine then_norm ⟨rfl, ((W64 (vsum1 + (defect_Size_g e1))), (W64 (vv1 + 1))), [(9, some 9)], ⟨rfl, rfl, rfl, rfl, rfl, ⟨wkP_id _ rfl, wkP_id _ rfl, trivial⟩, trivial⟩, hk19⟩
                    · replace hz18 := of_bif_f hz18 c24
                      refine awp_skip ?_
                      refine block_norm ?_
                      refine then_norm ?_
                      refine awp_go hmix ?_
                      refine go_run' ttok 2 rfl ?_
                      refine go_nil nd ?_
                      have e26 := of_some hz18
                      subst e26
                      refine then_norm ⟨rfl, (vsum1, (W64 (vv1 + 1))), [(9, some 9)], ⟨rfl, rfl, rfl, rfl, rfl, ⟨wkP_id _ rfl, wkP_id _ rfl, trivial⟩, trivial⟩, hk19⟩
                  · rw [g22]
                    replace hz18 := of_bif_f hz18 g22
                    refine go_run' ttok 8 rfl ?_
                    refine go_nil nd ?_
                    refine then_norm ?_
                    refine awp_cond rfl (fun h => by cases h) (fun tt0 => ?_)
                    clear tt0
                    refine awp_skip ?_
                    refine block_norm ?_
                    refine then_norm ?_
                    refine awp_go hmix ?_
                    refine go_run' ttok 2 rfl ?_
                    refine go_nil nd ?_
                    have e27 := of_some hz18
                    subst e27
                    refine then_norm ⟨rfl, (vsum1, (W64 (vv1 + 1))), [(9, some 9)], ⟨rfl, rfl, rfl, rfl, rfl, ⟨wkP_id _ rfl, wkP_id _ rfl, trivial⟩, trivial⟩, hk19⟩
                · replace hz18 := of_bif_f hz18 c20
                  refine awp_exit ?_
                  refine then_exit ?_
                  obtain ⟨t, hn28, hq⟩ := of_mapr' hz18
                  subst hq
                  have hq : t = _ := hk19
                  subst hq
                  refine then_exit ?_
                  refine block_here ?_
                  have e29 := of_some hn28
                  refine then_norm ⟨rfl, vsum1, [], ⟨rfl, rfl, rfl, rfl, rfl, ⟨wkP_id _ rfl, trivial⟩, trivial⟩, e29⟩
              · intro vsum hw17
                subst hw17
                refine awp_go hmix ?_
                refine go_run' ttok 4 rfl ?_
                refine go_nil nd ?_
                refine block_norm ?_
                have e30 := of_some hx13
                refine then_norm ⟨rfl, (max worst1 vsum), [], ⟨rfl, rfl, rfl, rfl, rfl, ⟨wkP_id _ rfl, trivial⟩, trivial⟩, e30⟩
            · intro worst2 hw14
              subst hw14
              refine awp_go hmix ?_
              refine go_run' ttok 2 rfl ?_
              refine go_nil nd ?_
              have e31 := of_some hz10
              subst e31
              refine then_norm ⟨rfl, (worst2, (W64 (vv + 1))), [], ⟨rfl, rfl, rfl, rfl, rfl, ⟨wkP_id _ rfl, wkP_id _ rfl, trivial⟩, trivial⟩, hk11⟩
          · replace hz10 := of_bif_f hz10 c12
            refine awp_exit ?_
            refine then_exit ?_
            obtain ⟨t1, hn32, hq⟩ := of_mapr' hz10
            subst hq
            have hq : t1 = _ := hk11
            subst hq
            refine then_exit ?_
            refine block_here ?_
            have e33 := of_some hn32
            refine then_norm ⟨rfl, worst1, [], ⟨rfl, rfl, rfl, rfl, rfl, ⟨wkP_id _ rfl, trivial⟩, trivial⟩, e33⟩
        · intro worst hw9
          subst hw9
          refine awp_seq ?_
          refine awp_go hmix ?_
          refine go_run' ttok 2 rfl ?_
          refine go_nil nd ?_
          refine then_norm ?_
          refine awp_ret ?_
          have e34 := of_some h
          subst e34
          refine ret_ret ?_
          refine fin0 ttok rfl rfl ?_
          exact (wkP_refl _ rfl)
noncomputable def defect_Worst_cs2 (N : Nat) (l : (List Df)) (window : Int) (e : Df) (vsum1 : Int) (vv1 : Int) : Option ((Int × Int) ⊕ Int) :=
  (bif (decide (vv1 < ((l.length : Nat) : Int))) then (Option.bind (getI l vv1) (fun e1 => (bif (defect_isKnot_g e1) then (letB (span_Meet_g e1.b.z (⟨(W64 ((W64 (e.b.z.a - window)) + 1)), (W64 ((W64 ((W64 (e.b.z.a - window)) + 1)) + window))⟩ : Sp)) (fun mv => (bif (!(defect_isEmpty_g mv)) then some (Sum.inl ((W64 (vsum1 + (defect_Size_g e1))), (W64 (vv1 + 1)))) else some (Sum.inl (vsum1, (W64 (vv1 + 1))))))) else some (Sum.inl (vsum1, (W64 (vv1 + 1))))))) else some (Sum.inr vsum1))
theorem defect_Worst_cs2_le (N : Nat) (l : (List Df)) (window : Int) (e : Df) (vsum1 : Int) (vv1 : Int) : OLe (defect_Worst_cs2 N l window e vsum1 vv1) (defect_Worst_s2 l window e vsum1 vv1) := by
  unfold defect_Worst_cs2 defect_Worst_s2
  repeat' (first | exact ole_rfl | exact defect_Check_le _ _ | refine ole_bif ?_ ?_ | refine ole_bind ?_ (fun _ => ?_) | refine ole_let (fun _ => ?_) | refine ole_map ?_ | refine ole_elim (fun _ => ?_) (fun _ => ?_) | refine ole_loop (fun _ => ?_))
noncomputable def defect_Worst_cs1 (N : Nat) (l : (List Df)) (window : Int) (worst1 : Int) (vv : Int) : Option ((Int × Int) ⊕ Int) :=
  (bif (decide (vv < ((l.length : Nat) : Int))) then (Option.bind ((Option.bind (getI l vv) (fun e => (Option.bind ((iterX N (fun q => defect_Worst_cs2 N l window e q.1 q.2) (0, 0)) : Option Int) (fun vsum => some (max worst1 vsum))))) : Option Int) (fun worst2 => some (Sum.inl (worst2, (W64 (vv + 1)))))) else some (Sum.inr worst1))
theorem defect_Worst_cs1_le (N : Nat) (l : (List Df)) (window : Int) (worst1 : Int) (vv : Int) : OLe (defect_Worst_cs1 N l window worst1 vv) (defect_Worst_s1 l window worst1 vv) := by
  unfold defect_Worst_cs1 defect_Worst_s1
  repeat' (first | exact ole_rfl | exact defect_Check_le _ _ | exact defect_Worst_cs2_le _ _ _ _ _ _ | refine ole_bif ?_ ?_ | refine ole_bind ?_ (fun _ => ?_) | refine ole_let (fun _ => ?_) | refine ole_map ?_ | refine ole_elim (fun _ => ?_) (fun _ => ?_) | refine ole_loop (fun _ => ?_))
noncomputable def defect_Worst_c (N : Nat) (l : (List Df)) (window : Int) : Option Int :=
  (Option.bind ((defect_Check_c N) l) (fun cv => (bif (cv != 0) then some 0 else (bif (decide (window < 1)) then some 0 else (bif (decide (20000 < window)) then some 0 else (Option.bind ((iterX N (fun q => defect_Worst_cs1 N l window q.1 q.2) (0, 0)) : Option Int) (fun worst => some worst)))))))
theorem defect_Worst_le (N : Nat) (l : (List Df)) (window : Int) : OLe (defect_Worst_c N l window) (defect_Worst_g l window) := by
  unfold defect_Worst_c defect_Worst_g
  repeat' (first | exact ole_rfl | exact defect_Check_le _ _ | exact defect_Worst_cs2_le _ _ _ _ _ _ | exact defect_Worst_cs1_le _ _ _ _ _ | refine ole_bif ?_ ?_ | refine ole_bind ?_ (fun _ => ?_) | refine ole_let (fun _ => ?_) | refine ole_map ?_ | refine ole_elim (fun _ => ?_) (fun _ => ?_) | refine ole_loop (fun _ => ?_))

/-- sawmill/strength.Knots -/
noncomputable def strength_Knots_g (b : TBoard) : Option Int :=
  (bif (decide ((max (span_Len_g b.Box.x) (span_Len_g b.Box.y)) < 1)) then some 0 else (Option.bind (defect_Worst_g b.Defects 150) (fun wv => (bif ((max (span_Len_g b.Box.x) (span_Len_g b.Box.y)) != 0) then some (min (W64 (Int.tdiv (W64 (wv * 1000)) (max (span_Len_g b.Box.x) (span_Len_g b.Box.y)))) 1000) else none))))
theorem strength_Knots_w (b : TBoard) (r : Int) (h : strength_Knots_g b = some r) : Holds Try.prog 18 [(encTBoard b)] [] (I r) [] := by
  unfold strength_Knots_g at h
  refine holds_fn Try.func18 rfl Try.ntmps18 rfl rfl rfl ?_
  refine awp_seq ?_
  refine awp_go hmix ?_
  refine go_run' ttok 2 rfl ?_
  refine go_nil nd ?_
  refine then_norm ?_
  refine awp_seq ?_
  refine awp_go hmix ?_
  refine go_run' ttok 3 rfl ?_
  refine go_call fn56 (span_Len_w b.Box.x _ rfl) rfl rfl rfl rfl rfl rfl rfl ?_
  refine go_run' ttok 3 rfl ?_
  refine go_call fn56 (span_Len_w b.Box.y _ rfl) rfl rfl rfl rfl rfl rfl rfl ?_
  refine go_run' ttok 2 rfl ?_
  refine go_nil (fun _ => by kernel_rfl) ?_
  refine then_norm ?_
  refine awp_seq ?_
  refine awp_seq ?_
  refine awp_go hmix ?_
  refine go_run' ttok 2 rfl ?_
  refine go_nil nd ?_
  refine then_norm ?_
  refine awp_cond (b := (decide ((max (span_Len_g b.Box.x) (span_Len_g b.Box.y)) < 1))) rfl (fun c1 => ?_) (fun c1 => ?_)
  · replace h := of_bif_t h c1
    refine awp_seq ?_
    refine awp_go hmix ?_
    refine go_run' ttok 1 rfl ?_
    refine go_nil nd ?_
    refine then_norm ?_
    refine awp_ret ?_
    refine then_ret ?_
    have e2 := of_some h
    subst e2
    refine ret_ret ?_
    refine fin0 ttok rfl rfl ?_
    exact (wkP_refl _ rfl)
  · replace h := of_bif_f h c1
    refine awp_skip ?_
    refine then_norm ?_
    refine awp_seq ?_
    refine awp_go hmix ?_
    refine go_run' ttok 2 rfl ?_
    obtain ⟨wv, hv3, h⟩ := of_obind h
    refine go_call fn45 (defect_Worst_w b.Defects 150 wv hv3) rfl rfl rfl rfl rfl rfl rfl ?_
    refine go_run' ttok 2 rfl ?_
    obtain ⟨hd4, h⟩ := of_grd h
    refine go_quoT (W64 (wv * 1000)) (max (span_Len_g b.Box.x) (span_Len_g b.Box.y)) hd4 rfl rfl rfl rfl rfl ?_
    refine go_run' ttok 2 rfl ?_
    refine go_nil nd ?_
    refine then_norm ?_
    refine awp_ret ?_
    have e5 := of_some h
    subst e5
    refine ret_ret ?_
    refine fin0 ttok rfl rfl ?_
    exact (wkP_refl _ rfl)
noncomputable def strength_Knots_c (N : Nat) (b : TBoard) : Option Int :=
  (bif (decide ((max (span_Len_g b.Box.x) (span_Len_g b.Box.y)) < 1)) then some 0 else (Option.bind ((defect_Worst_c N) b.Defects 150) (fun wv => (bif ((max (span_Len_g b.Box.x) (span_Len_g b.Box.y)) != 0) then some (min (W64 (Int.tdiv (W64 (wv * 1000)) (max (span_Len_g b.Box.x) (span_Len_g b.Box.y)))) 1000) else none))))
theorem strength_Knots_le (N : Nat) (b : TBoard) : OLe (strength_Knots_c N b) (strength_Knots_g b) := by
  unfold strength_Knots_c strength_Knots_g
  repeat' (first | exact ole_rfl | exact defect_Worst_le _ _ _ | refine ole_bif ?_ ?_ | refine ole_bind ?_ (fun _ => ?_) | refine ole_let (fun _ => ?_) | refine ole_map ?_ | refine ole_elim (fun _ => ?_) (fun _ => ?_) | refine ole_loop (fun _ => ?_))

/-- sawmill/moist.Check -/
noncomputable def moist_Check_g (c : TCell) : Int :=
  (bif (decide (c.Surf < 0)) then 25 else (bif (decide (20000 < c.Surf)) then 25 else (bif (decide (c.Core < 0)) then 25 else (bif (decide (20000 < c.Core)) then 25 else (bif (decide (c.Stress < 0)) then 9 else (bif (decide (1099511627776 < c.Stress)) then 9 else 0))))))
theorem moist_Check_w (c : TCell) (r : Int) (h : moist_Check_g c = r) : Holds Try.prog 78 [(encTCell c)] [] (I r) [] := by
  unfold moist_Check_g at h
  refine holds_fn Try.func78 rfl Try.ntmps78 rfl rfl rfl ?_
  refine awp_seq ?_
  refine awp_go hmix ?_
  refine go_run' ttok 2 rfl ?_
  refine go_nil nd ?_
  refine then_norm ?_
  refine awp_seq ?_
  refine awp_seq ?_
  refine awp_go hmix ?_
  refine go_run' ttok 4 rfl ?_
  refine go_gcase rfl rfl rfl (fun g1 => ?_) (fun g1 => ?_)
  · rw [g1]
    replace h := of_bif_t h g1
    refine go_run' ttok 14 rfl ?_
    refine go_nil nd ?_
    refine then_norm ?_
    refine awp_cond rfl (fun tt0 => ?_) (fun h => by cases h)
    clear tt0
    refine awp_seq ?_
    refine awp_go hmix ?_
    refine go_run' ttok 1 rfl ?_
    refine go_nil nd ?_
    refine then_norm ?_
    refine awp_ret ?_
    refine then_ret ?_
    have e2 := h
    subst e2
    refine ret_ret ?_
    refine fin0 ttok rfl rfl ?_
    exact (wkP_refl _ rfl)
  · rw [g1]
    replace h := of_bif_f h g1
    refine go_run' ttok 5 rfl ?_
    refine go_gcase rfl rfl rfl (fun g3 => ?_) (fun g3 => ?_)
    · rw [g3]
      replace h := of_bif_t h g3
      refine go_run' ttok 9 rfl ?_
      refine go_nil nd ?_
      refine then_norm ?_
      refine awp_cond rfl (fun tt0 => ?_) (fun h => by cases h)
      clear tt0
      refine awp_seq ?_
      refine awp_go hmix ?_
      refine go_run' ttok 1 rfl ?_
      refine go_nil nd ?_
      refine then_norm ?_
      refine awp_ret ?_
      refine then_ret ?_
      have e4 := h
      subst e4
      refine ret_ret ?_
      refine fin0 ttok rfl rfl ?_
      exact (wkP_refl _ rfl)
    · rw [g3]
      replace h := of_bif_f h g3
      refine go_run' ttok 5 rfl ?_
      refine go_gcase rfl rfl rfl (fun g5 => ?_) (fun g5 => ?_)
      · rw [g5]
        replace h := of_bif_t h g5
        refine go_run' ttok 4 rfl ?_
        refine go_nil nd ?_
        refine then_norm ?_
        refine awp_cond rfl (fun tt0 => ?_) (fun h => by cases h)
        clear tt0
        refine awp_seq ?_
        refine awp_go hmix ?_
        refine go_run' ttok 1 rfl ?_
        refine go_nil nd ?_
        refine then_norm ?_
        refine awp_ret ?_
        refine then_ret ?_
        have e6 := h
        subst e6
        refine ret_ret ?_
        refine fin0 ttok rfl rfl ?_
        exact (wkP_refl _ rfl)
      · rw [g5]
        replace h := of_bif_f h g5
        refine go_run' ttok 4 rfl ?_
        refine go_nil nd ?_
        refine then_norm ?_
        refine awp_cond (b := (decide (20000 < c.Core))) rfl (fun c7 => ?_) (fun c7 => ?_)
        · replace h := of_bif_t h c7
          refine awp_seq ?_
          refine awp_go hmix ?_
          refine go_run' ttok 1 rfl ?_
          refine go_nil nd ?_
          refine then_norm ?_
          refine awp_ret ?_
          refine then_ret ?_
          have e8 := h
          subst e8
          refine ret_ret ?_
          refine fin0 ttok rfl rfl ?_
          exact (wkP_refl _ rfl)
        · replace h := of_bif_f h c7
          refine awp_skip ?_
          refine then_norm ?_
          refine awp_seq ?_
          refine awp_seq ?_
          refine awp_go hmix ?_
          refine go_run' ttok 4 rfl ?_
          refine go_gcase rfl rfl rfl (fun g9 => ?_) (fun g9 => ?_)
          · rw [g9]
            replace h := of_bif_t h g9
            refine go_run' ttok 4 rfl ?_
            refine go_nil nd ?_
            refine then_norm ?_
            refine awp_cond rfl (fun tt0 => ?_) (fun h => by cases h)
            clear tt0
            refine awp_seq ?_
            refine awp_go hmix ?_
            refine go_run' ttok 1 rfl ?_
            refine go_nil nd ?_
            refine then_norm ?_
            refine awp_ret ?_
            refine then_ret ?_
            have e10 := h
            subst e10
            refine ret_ret ?_
            refine fin0 ttok rfl rfl ?_
            exact (wkP_refl _ rfl)
          · rw [g9]
            replace h := of_bif_f h g9
            refine go_run' ttok 4 rfl ?_
            refine go_nil nd ?_
            refine then_norm ?_
            refine awp_cond (b := (decide (1099511627776 < c.Stress))) rfl (fun c11 => ?_) (fun c11 => ?_)
            · replace h := of_bif_t h c11
              refine awp_seq ?_
              refine awp_go hmix ?_
              refine go_run' ttok 1 rfl ?_
              refine go_nil nd ?_
              refine then_norm ?_
              refine awp_ret ?_
              refine then_ret ?_
              have e12 := h
              subst e12
              refine ret_ret ?_
              refine fin0 ttok rfl rfl ?_
              exact (wkP_refl _ rfl)
            · replace h := of_bif_f h c11
              refine awp_skip ?_
              refine then_norm ?_
              refine awp_seq ?_
              refine awp_go hmix ?_
              refine go_run' ttok 1 rfl ?_
              refine go_nil nd ?_
              refine then_norm ?_
              refine awp_ret ?_
              have e13 := h
              subst e13
              refine ret_ret ?_
              refine fin0 ttok rfl rfl ?_
              exact (wkP_refl _ rfl)

/-- sawmill/moist.Mean -/
noncomputable def moist_Mean_g (c : TCell) : Int :=
  (bif ((moist_Check_g c) != 0) then 0 else (W64 (Int.tdiv (W64 (c.Surf + (W64 (2 * c.Core)))) 3)))
theorem moist_Mean_w (c : TCell) (r : Int) (h : moist_Mean_g c = r) : Holds Try.prog 57 [(encTCell c)] [] (I r) [] := by
  unfold moist_Mean_g at h
  refine holds_fn Try.func57 rfl Try.ntmps57 rfl rfl rfl ?_
  refine awp_seq ?_
  refine awp_go hmix ?_
  refine go_run' ttok 2 rfl ?_
  refine go_nil nd ?_
  refine then_norm ?_
  refine awp_seq ?_
  refine awp_seq ?_
  refine awp_go hmix ?_
  refine go_run' ttok 1 rfl ?_
  refine go_call fn78 (moist_Check_w c _ rfl) rfl rfl rfl rfl rfl rfl rfl ?_
  refine go_run' ttok 1 rfl ?_
  refine go_nil nd ?_
  refine then_norm ?_
  refine awp_cond (b := ((moist_Check_g c) != 0)) rfl (fun c1 => ?_) (fun c1 => ?_)
  · replace h := of_bif_t h c1
    refine awp_seq ?_
    refine awp_go hmix ?_
    refine go_run' ttok 1 rfl ?_
    refine go_nil nd ?_
    refine then_norm ?_
    refine awp_ret ?_
    refine then_ret ?_
    have e2 := h
    subst e2
    refine ret_ret ?_
    refine fin0 ttok rfl rfl ?_
    exact (wkP_refl _ rfl)
  · replace h := of_bif_f h c1
    refine awp_skip ?_
    refine then_norm ?_
    refine awp_seq ?_
    refine awp_go hmix ?_
    refine go_run' ttok 8 rfl ?_
    refine go_nil nd ?_
    refine then_norm ?_
    refine awp_ret ?_
    have e3 := h
    subst e3
    refine ret_ret ?_
    refine fin0 ttok rfl rfl ?_
    exact (wkP_refl _ rfl)

/-- sawmill/strength.Stiffness -/
noncomputable def strength_Stiffness_g (b : TBoard) (s : TSpecies) : Option Int :=
  (Option.bind (strength_Knots_g b) (fun kv => some (max 0 (W64 (Int.tdiv (W64 ((W64 (Int.tdiv (W64 (s.Stiff * (W64 (1000 - (W64 (Int.tdiv (W64 (s.KnotLoss * kv)) 1000)))))) 1000)) * (W64 (10000 - (max 0 (W64 ((moist_Mean_g b.Cell) - 1200))))))) 10000)))))
theorem strength_Stiffness_w (b : TBoard) (s : TSpecies) (r : Int) (h : strength_Stiffness_g b s = some r) : Holds Try.prog 20 [(encTBoard b), (encTSpecies s)] [] (I r) [] := by
  unfold strength_Stiffness_g at h
  refine holds_fn Try.func20 rfl Try.ntmps20 rfl rfl rfl ?_
  refine awp_seq ?_
  refine awp_go hmix ?_
  refine go_run' ttok 3 rfl ?_
  refine go_nil nd ?_
  refine then_norm ?_
  refine awp_seq ?_
  refine awp_go hmix ?_
  refine go_run' ttok 3 rfl ?_
  obtain ⟨kv, hv1, h⟩ := of_obind h
  refine go_call fn18 (strength_Knots_w b kv hv1) rfl rfl rfl rfl rfl rfl rfl ?_
  refine go_run' ttok 3 rfl ?_
  refine go_nil (fun _ => by kernel_rfl) ?_
  refine then_norm ?_
  refine awp_seq ?_
  refine awp_go hmix ?_
  refine go_run' ttok 7 rfl ?_
  refine go_nil nd ?_
  refine then_norm ?_
  refine awp_seq ?_
  refine awp_go hmix ?_
  refine go_run' ttok 2 rfl ?_
  refine go_call fn57 (moist_Mean_w b.Cell _ rfl) rfl rfl rfl rfl rfl rfl rfl ?_
  refine go_run' ttok 3 rfl ?_
  refine go_nil nd ?_
  refine then_norm ?_
  refine awp_seq ?_
  refine awp_go hmix ?_
  refine go_run' ttok 7 rfl ?_
  refine go_nil nd ?_
  refine then_norm ?_
  refine awp_ret ?_
  have e2 := of_some h
  subst e2
  refine ret_ret ?_
  refine fin0 ttok rfl rfl ?_
  exact (wkP_refl _ rfl)
noncomputable def strength_Stiffness_c (N : Nat) (b : TBoard) (s : TSpecies) : Option Int :=
  (Option.bind ((strength_Knots_c N) b) (fun kv => some (max 0 (W64 (Int.tdiv (W64 ((W64 (Int.tdiv (W64 (s.Stiff * (W64 (1000 - (W64 (Int.tdiv (W64 (s.KnotLoss * kv)) 1000)))))) 1000)) * (W64 (10000 - (max 0 (W64 ((moist_Mean_g b.Cell) - 1200))))))) 10000)))))
theorem strength_Stiffness_le (N : Nat) (b : TBoard) (s : TSpecies) : OLe (strength_Stiffness_c N b s) (strength_Stiffness_g b s) := by
  unfold strength_Stiffness_c strength_Stiffness_g
  repeat' (first | exact ole_rfl | exact strength_Knots_le _ _ | refine ole_bif ?_ ?_ | refine ole_bind ?_ (fun _ => ?_) | refine ole_let (fun _ => ?_) | refine ole_map ?_ | refine ole_elim (fun _ => ?_) (fun _ => ?_) | refine ole_loop (fun _ => ?_))

noncomputable def strength_Class_1_s1 (limits : (List Int)) (p1 : Int) (vv : Int) : Option (Int ⊕ (Int ⊕ Unit)) :=
  (bif (decide (vv < ((limits.length : Nat) : Int))) then (Option.bind (getI limits vv) (fun e => (bif (decide (e ≤ p1)) then some (Sum.inr (Sum.inl (W64 (vv + 1)))) else some (Sum.inl (W64 (vv + 1)))))) else some (Sum.inr (Sum.inr ())))
/-- sawmill/strength.Class$1 -/
noncomputable def strength_Class_1_g (limits : (List Int)) (p1 : Int) : Option Int :=
  (Option.bind ((loopO (fun q => strength_Class_1_s1 limits p1 q) 0) : Option (Int ⊕ Unit)) (Sum.elim (fun q => some q) (fun _ => some 0)))
theorem strength_Class_1_w (limits : (List Int)) (p1 : Int) (r : Int) (h : strength_Class_1_g limits p1 = some r) : Holds Try.prog 59 [((encL I) limits), (.ref 1000 0 0)] [(1000, some ⟨3, 1, [(I p1)]⟩)] (I r) [(1000, some ⟨3, 1, [(I p1)]⟩)] := by
  unfold strength_Class_1_g at h
  refine holds_fn Try.func59 rfl Try.ntmps59 rfl rfl rfl ?_
  refine awp_seq ?_
  refine awp_go hmix ?_
  refine go_run' ttok 1 rfl ?_
  refine go_nil nd ?_
  refine then_norm ?_
  obtain ⟨y, hx1, h⟩ := of_obind h
  refine awp_seqJ (X := Unit) [] [1000] (fun _ => []) (fun _ => []) (fun w => Sum.inr w = y) rfl rfl ?_ ?_
  · skip
    refine awp_seq ?_
    refine awp_go hmix ?_
    refine go_run' ttok 1 rfl ?_
    refine go_lenT I limits ttok rfl rfl rfl rfl rfl rfl ?_
    refine go_run' ttok 1 rfl ?_
    refine go_nil nd ?_
    refine then_norm ?_
    refine awp_block ?_
    refine awp_loopD (X := Int) (Y := (Int ⊕ Unit)) [1, 6, 7] [1000] (fun q => [(8, (I q))]) (fun q => []) (fun q => strength_Class_1_s1 limits p1 q) 0 [(1000, some 1000)] hx1 ⟨rfl, rfl, rfl, rfl, rfl, ⟨wkP_id _ rfl, trivial⟩, trivial⟩ (fun vv vR vz hz3 hk4 => ?_)
    change strength_Class_1_s1 limits p1 vv = _ at hz3
    unfold strength_Class_1_s1 at hz3
    refine awp_seq ?_
    refine awp_go hmix ?_
    refine go_run' ttok 1 rfl ?_
    refine go_nil nd ?_
    refine then_norm ?_
    refine awp_seq ?_
    refine awp_cond (b := (decide (vv < ((limits.length : Nat) : Int)))) rfl (fun c5 => ?_) (fun c5 => ?_)
    · replace hz3 := of_bif_t hz3 c5
      refine awp_skip ?_
      refine then_norm ?_
      refine awp_seq ?_
      refine awp_block ?_
      refine awp_seq ?_
      refine awp_go hmix ?_
      refine go_run' ttok 1 rfl ?_
      obtain ⟨e, hv6, hz3⟩ := of_obind hz3
      refine go_indexT I limits vv e hv6 ttok rfl rfl rfl rfl rfl rfl rfl rfl rfl ?_
      refine go_run' ttok 3 rfl ?_
      refine go_nil nd ?_
      refine then_norm ?_
      refine awp_seq ?_
      refine awp_go hmix ?_
      refine go_run' ttok 3 rfl ?_
      refine go_nil nd ?_
      refine then_norm ?_
      refine awp_cond (b := (decide (e ≤ p1))) rfl (fun c7 => ?_) (fun c7 => ?_)
      · replace hz3 := of_bif_t hz3 c7
        refine awp_seq ?_
        refine awp_go hmix ?_
        refine go_run' ttok 3 rfl ?_
        refine go_nil nd ?_
        refine then_norm ?_
        refine awp_ret ?_
        refine block_ret ?_
        refine then_ret ?_
        obtain ⟨t, hn8, hq⟩ := of_mapr' hz3
        subst hq
        have hq : t = _ := hk4
        subst hq
        refine then_ret ?_
        refine block_ret ?_
        obtain ⟨t1, hn9, hq⟩ := of_mapl' hn8
        subst hq
        have hq := of_inl h
        replace hq := of_some hq
        subst hq
        refine then_ret ?_
        have e10 := of_some hn9
        subst e10
        refine ret_ret ?_
        exact finB [(1000, some 1000)] ttok rfl rfl rfl rfl (wkP_refl _ rfl) ⟨⟨_, rfl, rfl, rfl, .inl ⟨rfl, nr_one rfl⟩⟩, trivial⟩
      · replace hz3 := of_bif_f hz3 c7
        refine awp_skip ?_
        refine block_norm ?_
        refine then_norm ?_
        refine awp_go hmix ?_
        refine go_run' ttok 2 rfl ?_
        refine go_nil nd ?_
        have e11 := of_some hz3
        subst e11
        refine then_norm ⟨rfl, (W64 (vv + 1)), [(1000, some 1000)], ⟨rfl, rfl, rfl, rfl, rfl, ⟨wkP_id _ rfl, trivial⟩, trivial⟩, hk4⟩
    · replace hz3 := of_bif_f hz3 c5
      refine awp_exit ?_
      refine then_exit ?_
      obtain ⟨t2, hn12, hq⟩ := of_mapr' hz3
      subst hq
      have hq : t2 = _ := hk4
      subst hq
      refine then_exit ?_
      refine block_here ?_
      have e13 := of_some hn12
      refine then_norm ⟨rfl, (), [(1000, some 1000)], ⟨rfl, rfl, rfl, rfl, rfl, trivial, trivial⟩, e13⟩
  · intro w hw2
    subst hw2
    replace h := of_inr h
    refine awp_seq ?_
    refine awp_go hmix ?_
    refine go_run' ttok 1 rfl ?_
    refine go_nil nd ?_
    refine then_norm ?_
    refine awp_ret ?_
    have e14 := of_some h
    subst e14
    refine ret_ret ?_
    exact finB [(1000, some 1000)] ttok rfl rfl rfl rfl (wkP_refl _ rfl) ⟨⟨_, rfl, rfl, rfl, .inl ⟨rfl, nr_one rfl⟩⟩, trivial⟩
noncomputable def strength_Class_1_cs1 (N : Nat) (limits : (List Int)) (p1 : Int) (vv : Int) : Option (Int ⊕ (Int ⊕ Unit)) :=
  (bif (decide (vv < ((limits.length : Nat) : Int))) then (Option.bind (getI limits vv) (fun e => (bif (decide (e ≤ p1)) then some (Sum.inr (Sum.inl (W64 (vv + 1)))) else some (Sum.inl (W64 (vv + 1)))))) else some (Sum.inr (Sum.inr ())))
theorem strength_Class_1_cs1_le (N : Nat) (limits : (List Int)) (p1 : Int) (vv : Int) : OLe (strength_Class_1_cs1 N limits p1 vv) (strength_Class_1_s1 limits p1 vv) := by
  unfold strength_Class_1_cs1 strength_Class_1_s1
  repeat' (first | exact ole_rfl | refine ole_bif ?_ ?_ | refine ole_bind ?_ (fun _ => ?_) | refine ole_let (fun _ => ?_) | refine ole_map ?_ | refine ole_elim (fun _ => ?_) (fun _ => ?_) | refine ole_loop (fun _ => ?_))
noncomputable def strength_Class_1_c (N : Nat) (limits : (List Int)) (p1 : Int) : Option Int :=
  (Option.bind ((iterX N (fun q => strength_Class_1_cs1 N limits p1 q) 0) : Option (Int ⊕ Unit)) (Sum.elim (fun q => some q) (fun _ => some 0)))
theorem strength_Class_1_le (N : Nat) (limits : (List Int)) (p1 : Int) : OLe (strength_Class_1_c N limits p1) (strength_Class_1_g limits p1) := by
  unfold strength_Class_1_c strength_Class_1_g
  repeat' (first | exact ole_rfl | exact strength_Class_1_cs1_le _ _ _ _ | refine ole_bif ?_ ?_ | refine ole_bind ?_ (fun _ => ?_) | refine ole_let (fun _ => ?_) | refine ole_map ?_ | refine ole_elim (fun _ => ?_) (fun _ => ?_) | refine ole_loop (fun _ => ?_))

/-- sawmill/strength.Class -/
noncomputable def strength_Class_g (stiffness : Int) : Option Int :=
  (Option.bind (strength_Class_1_g ([14000, 11000, 9000, 7000]) stiffness) (fun cv => some cv))
theorem strength_Class_w (stiffness : Int) (r : Int) (h : strength_Class_g stiffness = some r) : Holds Try.prog 22 [(I stiffness)] [] (I r) [] := by
  unfold strength_Class_g at h
  refine holds_fn Try.func22 rfl Try.ntmps22 rfl rfl rfl ?_
  refine awp_seq ?_
  refine awp_go hmix ?_
  refine go_run' ttok 2 rfl ?_
  refine go_nil nd ?_
  refine then_norm ?_
  refine awp_seq ?_
  refine awp_go hmix ?_
  refine go_run' ttok 2 rfl ?_
  refine go_nil nd ?_
  refine then_norm ?_
  refine awp_seq ?_
  refine awp_go hmix ?_
  refine go_run' ttok 2 rfl ?_
  obtain ⟨cv, hv1, h⟩ := of_obind h
  refine go_callM (I cv) [(6, some ⟨3, 1, ([14000, 11000, 9000, 7000]).map I⟩)] [(1, some ⟨3, 1, [(I stiffness)]⟩)] [(1000, some 1)] [(1, some 1000)] fn59 (strength_Class_1_w ([14000, 11000, 9000, 7000]) stiffness cv hv1) rfl rfl rfl rfl rfl ⟨rfl, by decide, trivial⟩ ⟨(wkP_lend rfl (by first | rfl | simp [setI]) (fun _ => rfl)), ⟨rfl, rfl, rfl⟩, trivial⟩ rfl rfl ⟨⟨_, rfl, rfl, rfl, .inl ⟨rfl, nr_one rfl⟩⟩, trivial⟩ rfl rfl ⟨⟨_, rfl, rfl, rfl, .inl ⟨rfl, nr_one rfl⟩⟩, trivial⟩ (wkP_refl _ rfl) rfl (fun _ => ⟨rfl, ⟨nsl_one rfl, trivial⟩⟩) rfl rfl rfl ?_
  refine go_run' ttok 1 rfl ?_
  refine go_nil nd ?_
  refine then_norm ?_
  refine awp_ret ?_
  have e2 := of_some h
  subst e2
  refine ret_ret ?_
  refine fin0 ttok rfl rfl ?_
  exact (wkP_refl _ rfl)
noncomputable def strength_Class_c (N : Nat) (stiffness : Int) : Option Int :=
  (Option.bind ((strength_Class_1_c N) ([14000, 11000, 9000, 7000]) stiffness) (fun cv => some cv))
theorem strength_Class_le (N : Nat) (stiffness : Int) : OLe (strength_Class_c N stiffness) (strength_Class_g stiffness) := by
  unfold strength_Class_c strength_Class_g
  repeat' (first | exact ole_rfl | exact strength_Class_1_le _ _ _ | refine ole_bif ?_ ?_ | refine ole_bind ?_ (fun _ => ?_) | refine ole_let (fun _ => ?_) | refine ole_map ?_ | refine ole_elim (fun _ => ?_) (fun _ => ?_) | refine ole_loop (fun _ => ?_))

/-- sawmill/strength.Name -/
noncomputable def strength_Name_g (vclass : Int) : ByteArray :=
  (bif (vclass == 1) then (⟨#[67, 51, 53]⟩ : ByteArray) else (bif (vclass == 2) then (⟨#[67, 50, 52]⟩ : ByteArray) else (bif (vclass == 3) then (⟨#[67, 49, 56]⟩ : ByteArray) else (bif (vclass == 4) then (⟨#[67, 49, 52]⟩ : ByteArray) else (⟨#[]⟩ : ByteArray)))))
theorem strength_Name_w (vclass : Int) (r : ByteArray) (h : strength_Name_g vclass = r) : Holds Try.prog 24 [(I vclass)] [] (S r) [] := by
  unfold strength_Name_g at h
  refine holds_fn Try.func24 rfl Try.ntmps24 rfl rfl rfl ?_
  refine awp_seq ?_
  refine awp_go hmix ?_
  refine go_run' ttok 1 rfl ?_
  refine go_nil nd ?_
  refine then_norm ?_
  refine awp_seq ?_
  refine awp_seq ?_
  refine awp_go hmix ?_
  refine go_run' ttok 1 rfl ?_
  refine go_nil nd ?_
  refine then_norm ?_
  refine awp_block ?_
  refine awp_seq ?_
  refine awp_go hmix ?_
  refine go_run' ttok 2 rfl ?_
  refine go_nil nd ?_
  refine then_norm ?_
  refine awp_cond (b := (vclass == 1)) rfl (fun c1 => ?_) (fun c1 => ?_)
  · replace h := of_bif_t h c1
    refine awp_seq ?_
    refine awp_go hmix ?_
    refine go_run' ttok 1 rfl ?_
    refine go_nil nd ?_
    refine then_norm ?_
    refine awp_ret ?_
    refine block_ret ?_
    refine then_ret ?_
    have e2 := h
    subst e2
    refine ret_ret ?_
    refine fin0 ttok rfl rfl ?_
    exact (wkP_refl _ rfl)
  · replace h := of_bif_f h c1
    refine awp_seq ?_
    refine awp_go hmix ?_
    refine go_run' ttok 2 rfl ?_
    refine go_nil nd ?_
    refine then_norm ?_
    refine awp_cond (b := (vclass == 2)) rfl (fun c3 => ?_) (fun c3 => ?_)
    · replace h := of_bif_t h c3
      refine awp_seq ?_
      refine awp_go hmix ?_
      refine go_run' ttok 1 rfl ?_
      refine go_nil nd ?_
      refine then_norm ?_
      refine awp_ret ?_
      refine block_ret ?_
      refine then_ret ?_
      have e4 := h
      subst e4
      refine ret_ret ?_
      refine fin0 ttok rfl rfl ?_
      exact (wkP_refl _ rfl)
    · replace h := of_bif_f h c3
      refine awp_seq ?_
      refine awp_go hmix ?_
      refine go_run' ttok 2 rfl ?_
      refine go_nil nd ?_
      refine then_norm ?_
      refine awp_cond (b := (vclass == 3)) rfl (fun c5 => ?_) (fun c5 => ?_)
      · replace h := of_bif_t h c5
        refine awp_seq ?_
        refine awp_go hmix ?_
        refine go_run' ttok 1 rfl ?_
        refine go_nil nd ?_
        refine then_norm ?_
        refine awp_ret ?_
        refine block_ret ?_
        refine then_ret ?_
        have e6 := h
        subst e6
        refine ret_ret ?_
        refine fin0 ttok rfl rfl ?_
        exact (wkP_refl _ rfl)
      · replace h := of_bif_f h c5
        refine awp_seq ?_
        refine awp_go hmix ?_
        refine go_run' ttok 2 rfl ?_
        refine go_nil nd ?_
        refine then_norm ?_
        refine awp_cond (b := (vclass == 4)) rfl (fun c7 => ?_) (fun c7 => ?_)
        · replace h := of_bif_t h c7
          refine awp_seq ?_
          refine awp_go hmix ?_
          refine go_run' ttok 1 rfl ?_
          refine go_nil nd ?_
          refine then_norm ?_
          refine awp_ret ?_
          refine block_ret ?_
          refine then_ret ?_
          have e8 := h
          subst e8
          refine ret_ret ?_
          refine fin0 ttok rfl rfl ?_
          exact (wkP_refl _ rfl)
        · replace h := of_bif_f h c7
          refine awp_skip ?_
          refine block_norm ?_
          refine then_norm ?_
          refine awp_seq ?_
          refine awp_go hmix ?_
          refine go_run' ttok 1 rfl ?_
          refine go_nil nd ?_
          refine then_norm ?_
          refine awp_ret ?_
          have e9 := h
          subst e9
          refine ret_ret ?_
          refine fin0 ttok rfl rfl ?_
          exact (wkP_refl _ rfl)

/-- sawmill/sawmilllaw41.awake -/
noncomputable def l41_awake_g : Option Bool :=
  (letB l41_example_g (fun ev => (Option.bind (strength_Knots_g ev.1) (fun kv => (bif (kv == 300) then (Option.bind (strength_Stiffness_g ev.1 ev.2) (fun sv => (bif (sv == 8789) then (Option.bind (strength_Class_g 11000) (fun cv => (bif (cv == 2) then (bif (bEq (strength_Name_g 2) (⟨#[67, 50, 52]⟩ : ByteArray)) then (Option.bind (strength_Class_g 6999) (fun cv1 => some (bEq (strength_Name_g cv1) (⟨#[]⟩ : ByteArray)))) else some false) else some false))) else some false))) else some false)))))
theorem l41_awake_w (r : Bool) (h : l41_awake_g = some r) : Holds Try.prog 17 [] [] (B r) [] := by
  unfold l41_awake_g at h
  refine holds_fn Try.func17 rfl Try.ntmps17 rfl rfl rfl ?_
  refine awp_seq ?_
  refine awp_go hmix ?_
  refine go_run' ttok 1 rfl ?_
  refine go_nil nd ?_
  refine then_norm ?_
  refine awp_seq ?_
  refine awp_go hmix ?_
  obtain ⟨ev, hv1, h⟩ := of_let h
  refine go_call fn55 (l41_example_w ev hv1) rfl rfl rfl rfl rfl rfl rfl ?_
  refine go_run' ttok 7 rfl ?_
  refine go_nil nd ?_
  refine then_norm ?_
  refine awp_seq ?_
  refine awp_go hmix ?_
  refine go_run' ttok 1 rfl ?_
  obtain ⟨kv, hv2, h⟩ := of_obind h
  refine go_call fn18 (strength_Knots_w ev.1 kv hv2) rfl rfl rfl rfl rfl rfl rfl ?_
  refine go_run' ttok 2 rfl ?_
  refine go_gcase rfl rfl rfl (fun g3 => ?_) (fun g3 => ?_)
  · rw [g3]
    replace h := of_bif_t h g3
    refine go_run' ttok 2 rfl ?_
    obtain ⟨sv, hv4, h⟩ := of_obind h
    refine go_call fn20 (strength_Stiffness_w ev.1 ev.2 sv hv4) rfl rfl rfl rfl rfl rfl rfl ?_
    refine go_run' ttok 3 rfl ?_
    refine go_gcase rfl rfl rfl (fun g5 => ?_) (fun g5 => ?_)
    · rw [g5]
      replace h := of_bif_t h g5
      obtain ⟨cv, hv6, h⟩ := of_obind h
      refine go_call fn22 (strength_Class_w 11000 cv hv6) rfl rfl rfl rfl rfl rfl rfl ?_
      refine go_run' ttok 3 rfl ?_
      refine go_gcase rfl rfl rfl (fun g7 => ?_) (fun g7 => ?_)
      · rw [g7]
        replace h := of_bif_t h g7
        refine go_call fn24 (strength_Name_w 2 _ rfl) rfl rfl rfl rfl rfl rfl rfl ?_
        refine go_eqlS (strength_Name_g 2) (⟨#[67, 50, 52]⟩ : ByteArray) rfl rfl rfl rfl rfl ?_
        refine go_run' ttok 2 rfl ?_
        refine go_gcase rfl rfl rfl (fun g8 => ?_) (fun g8 => ?_)
        · rw [g8]
          replace h := of_bif_t h g8
          obtain ⟨cv1, hv9, h⟩ := of_obind h
          refine go_call fn22 (strength_Class_w 6999 cv1 hv9) rfl rfl rfl rfl rfl rfl rfl ?_
          refine go_call fn24 (strength_Name_w cv1 _ rfl) rfl rfl rfl rfl rfl rfl rfl ?_
          refine go_eqlS (strength_Name_g cv1) (⟨#[]⟩ : ByteArray) rfl rfl rfl rfl rfl ?_
          refine go_run' ttok 2 rfl ?_
          refine go_nil nd ?_
          refine then_norm ?_
          refine awp_ret ?_
          have e10 := of_some h
          subst e10
          refine ret_ret ?_
          refine fin0 ttok rfl rfl ?_
          exact (wkP_refl _ rfl)
        · rw [g8]
          replace h := of_bif_f h g8
          refine go_run' ttok 5 rfl ?_
          refine go_nil nd ?_
          refine then_norm ?_
          refine awp_ret ?_
          have e11 := of_some h
          subst e11
          refine ret_ret ?_
          refine fin0 ttok rfl rfl ?_
          exact (wkP_refl _ rfl)
      · rw [g7]
        replace h := of_bif_f h g7
        refine go_run' ttok 9 rfl ?_
        refine go_nil nd ?_
        refine then_norm ?_
        refine awp_ret ?_
        have e12 := of_some h
        subst e12
        refine ret_ret ?_
        refine fin0 ttok rfl rfl ?_
        exact (wkP_refl _ rfl)
    · rw [g5]
      replace h := of_bif_f h g5
      refine go_run' ttok 13 rfl ?_
      refine go_nil nd ?_
      refine then_norm ?_
      refine awp_ret ?_
      have e13 := of_some h
      subst e13
      refine ret_ret ?_
      refine fin0 ttok rfl rfl ?_
      exact (wkP_refl _ rfl)
  · rw [g3]
    replace h := of_bif_f h g3
    refine go_run' ttok 19 rfl ?_
    refine go_nil nd ?_
    refine then_norm ?_
    refine awp_ret ?_
    have e14 := of_some h
    subst e14
    refine ret_ret ?_
    refine fin0 ttok rfl rfl ?_
    exact (wkP_refl _ rfl)
noncomputable def l41_awake_c (N : Nat) : Option Bool :=
  (letB l41_example_g (fun ev => (Option.bind ((strength_Knots_c N) ev.1) (fun kv => (bif (kv == 300) then (Option.bind ((strength_Stiffness_c N) ev.1 ev.2) (fun sv => (bif (sv == 8789) then (Option.bind ((strength_Class_c N) 11000) (fun cv => (bif (cv == 2) then (bif (bEq (strength_Name_g 2) (⟨#[67, 50, 52]⟩ : ByteArray)) then (Option.bind ((strength_Class_c N) 6999) (fun cv1 => some (bEq (strength_Name_g cv1) (⟨#[]⟩ : ByteArray)))) else some false) else some false))) else some false))) else some false)))))
theorem l41_awake_le (N : Nat) : OLe (l41_awake_c N) (l41_awake_g) := by
  unfold l41_awake_c l41_awake_g
  repeat' (first | exact ole_rfl | exact strength_Knots_le _ _ | exact strength_Stiffness_le _ _ _ | exact strength_Class_le _ _ | refine ole_bif ?_ ?_ | refine ole_bind ?_ (fun _ => ?_) | refine ole_let (fun _ => ?_) | refine ole_map ?_ | refine ole_elim (fun _ => ?_) (fun _ => ?_) | refine ole_loop (fun _ => ?_))

/-- sawmill/sawmillref03.Meet -/
noncomputable def r03_Meet_g (a : Sp) (b : Sp) : Sp :=
  (bif (decide ((min a.b b.b) ≤ (max a.a b.a))) then (⟨0, 0⟩ : Sp) else (⟨(max a.a b.a), (min a.b b.b)⟩ : Sp))
theorem r03_Meet_w (a : Sp) (b : Sp) (r : Sp) (h : r03_Meet_g a b = r) : Holds Try.prog 72 [(encSp a), (encSp b)] [] (encSp r) [] := by
  unfold r03_Meet_g at h
  refine holds_fn Try.func72 rfl Try.ntmps72 rfl rfl rfl ?_
  refine awp_seq ?_
  refine awp_go hmix ?_
  refine go_run' ttok 3 rfl ?_
  refine go_nil nd ?_
  refine then_norm ?_
  refine awp_seq ?_
  refine awp_go hmix ?_
  refine go_run' ttok 13 rfl ?_
  refine go_nil nd ?_
  refine then_norm ?_
  refine awp_seq ?_
  refine awp_seq ?_
  refine awp_go hmix ?_
  refine go_run' ttok 5 rfl ?_
  refine go_nil nd ?_
  refine then_norm ?_
  refine awp_cond (b := (decide ((min a.b b.b) ≤ (max a.a b.a)))) rfl (fun c1 => ?_) (fun c1 => ?_)
  · replace h := of_bif_t h c1
    refine awp_seq ?_
    refine awp_go hmix ?_
    refine go_run' ttok 2 rfl ?_
    refine go_nil nd ?_
    refine then_norm ?_
    refine awp_ret ?_
    refine then_ret ?_
    have e2 := h
    subst e2
    refine ret_ret ?_
    refine fin0 ttok rfl rfl ?_
    exact (wkP_refl _ rfl)
  · replace h := of_bif_f h c1
    refine awp_skip ?_
    refine then_norm ?_
    refine awp_seq ?_
    refine awp_go hmix ?_
    refine go_run' ttok 2 rfl ?_
    refine go_nil nd ?_
    refine then_norm ?_
    refine awp_ret ?_
    have e3 := h
    subst e3
    refine ret_ret ?_
    refine fin0 ttok rfl rfl ?_
    exact (wkP_refl _ rfl)

/-- sawmill/sawmillref13.Knot -/
noncomputable def r13_Knot_g (d : Df) : Bool :=
  (bif (d.k == 1) then true else (d.k == 2))
theorem r13_Knot_w (d : Df) (r : Bool) (h : r13_Knot_g d = r) : Holds Try.prog 27 [(encDf d)] [] (B r) [] := by
  unfold r13_Knot_g at h
  refine holds_fn Try.func27 rfl Try.ntmps27 rfl rfl rfl ?_
  refine awp_seq ?_
  refine awp_go hmix ?_
  refine go_run' ttok 2 rfl ?_
  refine go_nil nd ?_
  refine then_norm ?_
  refine awp_seq ?_
  refine awp_go hmix ?_
  refine go_run' ttok 4 rfl ?_
  refine go_gcase rfl rfl rfl (fun g1 => ?_) (fun g1 => ?_)
  · rw [g1]
    replace h := of_bif_t h g1
    refine go_run' ttok 5 rfl ?_
    refine go_nil nd ?_
    refine then_norm ?_
    refine awp_ret ?_
    have e2 := h
    subst e2
    refine ret_ret ?_
    refine fin0 ttok rfl rfl ?_
    exact (wkP_refl _ rfl)
  · rw [g1]
    replace h := of_bif_f h g1
    refine go_run' ttok 5 rfl ?_
    refine go_nil nd ?_
    refine then_norm ?_
    refine awp_ret ?_
    have e3 := h
    subst e3
    refine ret_ret ?_
    refine fin0 ttok rfl rfl ?_
    exact (wkP_refl _ rfl)

/-- sawmill/sawmillref13.Size -/
noncomputable def r13_Size_g (d : Df) : Int :=
  (max (r03_Len_g d.b.x) (r03_Len_g d.b.y))
theorem r13_Size_w (d : Df) (r : Int) (h : r13_Size_g d = r) : Holds Try.prog 32 [(encDf d)] [] (I r) [] := by
  unfold r13_Size_g at h
  refine holds_fn Try.func32 rfl Try.ntmps32 rfl rfl rfl ?_
  refine awp_seq ?_
  refine awp_go hmix ?_
  refine go_run' ttok 2 rfl ?_
  refine go_nil nd ?_
  refine then_norm ?_
  refine awp_seq ?_
  refine awp_go hmix ?_
  refine go_run' ttok 3 rfl ?_
  refine go_call fn28 (r03_Len_w d.b.x _ rfl) rfl rfl rfl rfl rfl rfl rfl ?_
  refine go_run' ttok 3 rfl ?_
  refine go_call fn28 (r03_Len_w d.b.y _ rfl) rfl rfl rfl rfl rfl rfl rfl ?_
  refine go_run' ttok 2 rfl ?_
  refine go_nil (fun _ => by kernel_rfl) ?_
  refine then_norm ?_
  refine awp_ret ?_
  have e1 := h
  subst e1
  refine ret_ret ?_
  refine fin0 ttok rfl rfl ?_
  exact (wkP_refl _ rfl)

noncomputable def r13_window_s1 (l : (List Df)) (s : Sp) (n1 : Int) (i : Int) : Option ((Int × Int) ⊕ Int) :=
  (bif (decide (i < ((l.length : Nat) : Int))) then (Option.bind (getI l i) (fun e => (letB (r03_Meet_g e.b.z s) (fun mv => (Option.bind (getI l i) (fun e1 => (bif (r13_Knot_g e1) then (bif (decide (mv.a < mv.b)) then (Option.bind (getI l i) (fun e2 => some (Sum.inl ((W64 (n1 + (r13_Size_g e2))), (W64 (i + 1)))))) else some (Sum.inl (n1, (W64 (i + 1))))) else some (Sum.inl (n1, (W64 (i + 1))))))))))) else some (Sum.inr n1))
/-- sawmill/sawmillref13.window -/
noncomputable def r13_window_g (l : (List Df)) (s : Sp) : Option Int :=
  (Option.bind ((loopO (fun q => r13_window_s1 l s q.1 q.2) (0, 0)) : Option Int) (fun n => some n))
theorem r13_window_w (l : (List Df)) (s : Sp) (r : Int) (h : r13_window_g l s = some r) : Holds Try.prog 71 [((encL encDf) l), (encSp s)] [] (I r) [] := by
  unfold r13_window_g at h
  refine holds_fn Try.func71 rfl Try.ntmps71 rfl rfl rfl ?_
  refine awp_seq ?_
  refine awp_go hmix ?_
  refine go_run' ttok 2 rfl ?_
  refine go_nil nd ?_
  refine then_norm ?_
  refine awp_seq ?_
  refine awp_go hmix ?_
  refine go_run' ttok 1 rfl ?_
  refine go_nil nd ?_
  refine then_norm ?_
  obtain ⟨y, hx1, h⟩ := of_obind h
  refine awp_seqJ (X := Int) [] [] (fun w => [(5, (I w))]) (fun w => []) (fun w => w = y) rfl rfl ?_ ?_
  · skip
    refine awp_seq ?_
    refine awp_go hmix ?_
    refine go_run' ttok 1 rfl ?_
    refine go_nil nd ?_
    refine then_norm ?_
    refine awp_block ?_
    refine awp_loopD (X := (Int × Int)) (Y := Int) [0, 3] [3] (fun q => [(5, (I q.1)), (6, (I q.2))]) (fun q => []) (fun q => r13_window_s1 l s q.1 q.2) (0, 0) [(3, some 3)] hx1 ⟨rfl, rfl, rfl, rfl, rfl, ⟨wkP_id _ rfl, wkP_id _ rfl, trivial⟩, trivial⟩ (fun x vR vz hz3 hk4 => ?_)
    obtain ⟨n1, i⟩ := x
    change r13_window_s1 l s n1 i = _ at hz3
    unfold r13_window_s1 at hz3
    refine awp_seq ?_
    refine awp_seq ?_
    refine awp_go hmix ?_
    refine go_run' ttok 2 rfl ?_
    refine go_lenT encDf l ttok rfl rfl rfl rfl rfl rfl ?_
    refine go_run' ttok 1 rfl ?_
    refine go_nil nd ?_
    refine then_norm ?_
    refine awp_cond (b := (decide (i < ((l.length : Nat) : Int)))) rfl (fun c5 => ?_) (fun c5 => ?_)
    · replace hz3 := of_bif_t hz3 c5
      refine awp_skip ?_
      refine then_norm ?_
      refine awp_seq ?_
      refine awp_block ?_
      refine awp_seq ?_
      refine awp_go hmix ?_
      refine go_run' ttok 2 rfl ?_
      obtain ⟨e, hv6, hz3⟩ := of_obind hz3
      refine go_indexT encDf l i e hv6 ttok rfl rfl rfl rfl rfl rfl rfl rfl rfl ?_
      refine go_run' ttok 4 rfl ?_
      obtain ⟨mv, hv7, hz3⟩ := of_let hz3
      refine go_call fn72 (r03_Meet_w e.b.z s mv hv7) rfl rfl rfl rfl rfl rfl rfl ?_
      refine go_run' ttok 2 rfl ?_
      refine go_nil (fun _ => by kernel_rfl) ?_
      refine then_norm ?_
      refine awp_seq ?_
      refine awp_go hmix ?_
      refine go_run' ttok 2 rfl ?_
      obtain ⟨e1, hv8, hz3⟩ := of_obind hz3
      refine go_indexT encDf l i e1 hv8 ttok rfl rfl rfl rfl rfl rfl rfl rfl rfl ?_
      refine go_run' ttok 1 rfl ?_
      refine go_call fn27 (r13_Knot_w e1 _ rfl) rfl rfl rfl rfl rfl rfl rfl ?_
      refine go_run' ttok 1 rfl ?_
      refine go_gcase rfl rfl rfl (fun g9 => ?_) (fun g9 => ?_)
      · rw [g9]
        replace hz3 := of_bif_t hz3 g9
        refine go_run' ttok 6 rfl ?_
        refine go_nil nd ?_
        refine then_norm ?_
        refine awp_cond (b := (decide (mv.a < mv.b))) rfl (fun c10 => ?_) (fun c10 => ?_)
        · replace hz3 := of_bif_t hz3 c10
          refine awp_go hmix ?_
          refine go_run' ttok 3 rfl ?_
          obtain ⟨e2, hv11, hz3⟩ := of_obind hz3
          refine go_indexT encDf l i e2 hv11 ttok rfl rfl rfl rfl rfl rfl rfl rfl rfl ?_
          refine go_run' ttok 1 rfl ?_
          refine go_call fn32 (r13_Size_w e2 _ rfl) rfl rfl rfl rfl rfl rfl rfl ?_
          refine go_run' ttok 2 rfl ?_
          refine go_nil nd ?_
          refine block_norm ?_
          refine then_norm ?_
          refine awp_go hmix ?_
          refine go_run' ttok 3 rfl ?_
          refine go_nil nd ?_
          have e12 := of_some hz3
          subst e12
          refine then_norm ⟨rfl, ((W64 (n1 + (r13_Size_g e2))), (W64 (i + 1))), [(3, some 3)], ⟨rfl, rfl, rfl, rfl, rfl, ⟨wkP_id _ rfl, wkP_id _ rfl, trivial⟩, trivial⟩, hk4⟩
        · replace hz3 := of_bif_f hz3 c10
          refine awp_skip ?_
          refine block_norm ?_
          refine then_norm ?_
          refine awp_go hmix ?_
          refine go_run' ttok 3 rfl ?_
          refine go_nil nd ?_
          have e13 := of_some hz3
          subst e13
          refine then_norm ⟨rfl, (n1, (W64 (i + 1))), [(3, some 3)], ⟨rfl, rfl, rfl, rfl, rfl, ⟨wkP_id _ rfl, wkP_id _ rfl, trivial⟩, trivial⟩, hk4⟩
      · rw [g9]
        replace hz3 := of_bif_f hz3 g9
        refine go_run' ttok 6 rfl ?_
        refine go_nil nd ?_
        refine then_norm ?_
        refine awp_cond rfl (fun h => by cases h) (fun tt0 => ?_)
        clear tt0
        refine awp_skip ?_
        refine block_norm ?_
        refine then_norm ?_
        refine awp_go hmix ?_
        refine go_run' ttok 3 rfl ?_
        refine go_nil nd ?_
        have e14 := of_some hz3
        subst e14
        refine then_norm ⟨rfl, (n1, (W64 (i + 1))), [(3, some 3)], ⟨rfl, rfl, rfl, rfl, rfl, ⟨wkP_id _ rfl, wkP_id _ rfl, trivial⟩, trivial⟩, hk4⟩
    · replace hz3 := of_bif_f hz3 c5
      refine awp_exit ?_
      refine then_exit ?_
      obtain ⟨t, hn15, hq⟩ := of_mapr' hz3
      subst hq
      have hq : t = _ := hk4
      subst hq
      refine then_exit ?_
      refine block_here ?_
      have e16 := of_some hn15
      refine then_norm ⟨rfl, n1, [], ⟨rfl, rfl, rfl, rfl, rfl, ⟨wkP_id _ rfl, trivial⟩, trivial⟩, e16⟩
  · intro n hw2
    subst hw2
    refine awp_seq ?_
    refine awp_go hmix ?_
    refine go_run' ttok 2 rfl ?_
    refine go_nil nd ?_
    refine then_norm ?_
    refine awp_ret ?_
    have e17 := of_some h
    subst e17
    refine ret_ret ?_
    refine fin0 ttok rfl rfl ?_
    exact (wkP_refl _ rfl)

noncomputable def r13_Worst_s1 (l : (List Df)) (vsize : Int) (most1 : Int) (i : Int) : Option ((Int × Int) ⊕ Int) :=
  (bif (decide (i < ((l.length : Nat) : Int))) then (Option.bind (getI l i) (fun e => (Option.bind (r13_window_g l (⟨(W64 ((W64 (e.b.z.a - vsize)) + 1)), (W64 ((W64 ((W64 (e.b.z.a - vsize)) + 1)) + vsize))⟩ : Sp)) (fun wv => some (Sum.inl ((max most1 wv), (W64 (i + 1)))))))) else some (Sum.inr most1))
/-- sawmill/sawmillref13.Worst -/
noncomputable def r13_Worst_g (l : (List Df)) (vsize : Int) : Option Int :=
  (Option.bind (r13_Check_g l) (fun cv => (bif (cv != 0) then some 0 else (bif (decide (vsize < 1)) then some 0 else (bif (decide (20000 < vsize)) then some 0 else (Option.bind ((loopO (fun q => r13_Worst_s1 l vsize q.1 q.2) (0, 0)) : Option Int) (fun most => some most)))))))
theorem r13_Worst_w (l : (List Df)) (vsize : Int) (r : Int) (h : r13_Worst_g l vsize = some r) : Holds Try.prog 46 [((encL encDf) l), (I vsize)] [] (I r) [] := by
  unfold r13_Worst_g at h
  refine holds_fn Try.func46 rfl Try.ntmps46 rfl rfl rfl ?_
  refine awp_seq ?_
  refine awp_go hmix ?_
  refine go_run' ttok 1 rfl ?_
  refine go_nil nd ?_
  refine then_norm ?_
  refine awp_seq ?_
  refine awp_seq ?_
  refine awp_go hmix ?_
  refine go_run' ttok 1 rfl ?_
  obtain ⟨cv, hv1, h⟩ := of_obind h
  refine go_call fn26 (r13_Check_w l cv hv1) rfl rfl rfl rfl rfl rfl rfl ?_
  refine go_run' ttok 2 rfl ?_
  refine go_gcase rfl rfl rfl (fun g2 => ?_) (fun g2 => ?_)
  · rw [g2]
    replace h := of_bif_t h g2
    refine go_run' ttok 7 rfl ?_
    refine go_nil nd ?_
    refine then_norm ?_
    refine awp_cond rfl (fun tt0 => ?_) (fun h => by cases h)
    clear tt0
    refine awp_seq ?_
    refine awp_go hmix ?_
    refine go_run' ttok 1 rfl ?_
    refine go_nil nd ?_
    refine then_norm ?_
    refine awp_ret ?_
    refine then_ret ?_
    have e3 := of_some h
    subst e3
    refine ret_ret ?_
    refine fin0 ttok rfl rfl ?_
    exact (wkP_refl _ rfl)
  · rw [g2]
    replace h := of_bif_f h g2
    refine go_run' ttok 4 rfl ?_
    refine go_gcase rfl rfl rfl (fun g4 => ?_) (fun g4 => ?_)
    · rw [g4]
      replace h := of_bif_t h g4
      refine go_run' ttok 3 rfl ?_
      refine go_nil nd ?_
      refine then_norm ?_
      refine awp_cond rfl (fun tt0 => ?_) (fun h => by cases h)
      clear tt0
      refine awp_seq ?_
      refine awp_go hmix ?_
      refine go_run' ttok 1 rfl ?_
      refine go_nil nd ?_
      refine then_norm ?_
      refine awp_ret ?_
      refine then_ret ?_
      have e5 := of_some h
      subst e5
      refine ret_ret ?_
      refine fin0 ttok rfl rfl ?_
      exact (wkP_refl _ rfl)
    · rw [g4]
      replace h := of_bif_f h g4
      refine go_run' ttok 3 rfl ?_
      refine go_nil nd ?_
      refine then_norm ?_
      refine awp_cond (b := (decide (20000 < vsize))) rfl (fun c6 => ?_) (fun c6 => ?_)
      · replace h := of_bif_t h c6
        refine awp_seq ?_
        refine awp_go hmix ?_
        refine go_run' ttok 1 rfl ?_
        refine go_nil nd ?_
        refine then_norm ?_
        refine awp_ret ?_
        refine then_ret ?_
        have e7 := of_some h
        subst e7
        refine ret_ret ?_
        refine fin0 ttok rfl rfl ?_
        exact (wkP_refl _ rfl)
      · replace h := of_bif_f h c6
        refine awp_skip ?_
        refine then_norm ?_
        refine awp_seq ?_
        refine awp_go hmix ?_
        refine go_run' ttok 1 rfl ?_
        refine go_nil nd ?_
        refine then_norm ?_
        obtain ⟨y, hx8, h⟩ := of_obind h
        refine awp_seqJ (X := Int) [] [] (fun w => [(5, (I w))]) (fun w => []) (fun w => w = y) rfl rfl ?_ ?_
        · skip
          refine awp_seq ?_
          refine awp_go hmix ?_
          refine go_run' ttok 1 rfl ?_
          refine go_nil nd ?_
          refine then_norm ?_
          refine awp_block ?_
          refine awp_loopD (X := (Int × Int)) (Y := Int) [0, 1] [] (fun q => [(5, (I q.1)), (6, (I q.2))]) (fun q => []) (fun q => r13_Worst_s1 l vsize q.1 q.2) (0, 0) [] hx8 ⟨rfl, rfl, rfl, rfl, rfl, ⟨wkP_id _ rfl, wkP_id _ rfl, trivial⟩, trivial⟩ (fun x vR vz hz10 hk11 => ?_)
          obtain ⟨most1, i⟩ := x
          change r13_Worst_s1 l vsize most1 i = _ at hz10
          unfold r13_Worst_s1 at hz10
          refine awp_seq ?_
          refine awp_seq ?_
          refine awp_go hmix ?_
          refine go_run' ttok 2 rfl ?_
          refine go_lenT encDf l ttok rfl rfl rfl rfl rfl rfl ?_
          refine go_run' ttok 1 rfl ?_
          refine go_nil nd ?_
          refine then_norm ?_
          refine awp_cond (b := (decide (i < ((l.length : Nat) : Int)))) rfl (fun c12 => ?_) (fun c12 => ?_)
          · replace hz10 := of_bif_t hz10 c12
            refine awp_skip ?_
            refine then_norm ?_
            refine awp_seq ?_
            refine awp_block ?_
            refine awp_seq ?_
            refine awp_go hmix ?_
            refine go_run' ttok 2 rfl ?_
            obtain ⟨e, hv13, hz10⟩ := of_obind hz10
            refine go_indexT encDf l i e hv13 ttok rfl rfl rfl rfl rfl rfl rfl rfl rfl ?_
            refine go_run' ttok 8 rfl ?_
            refine go_nil nd ?_
            refine then_norm ?_
            refine awp_go hmix ?_
            refine go_run' ttok 7 rfl ?_
            obtain ⟨wv, hv14, hz10⟩ := of_obind hz10
            refine go_call fn71 (r13_window_w l (⟨(W64 ((W64 (e.b.z.a - vsize)) + 1)), (W64 ((W64 ((W64 (e.b.z.a - vsize)) + 1)) + vsize))⟩ : Sp) wv hv14) rfl rfl rfl rfl rfl rfl rfl ?_
            refine go_run' ttok 2 rfl ?_
            refine go_nil nd ?_
            refine block_norm ?_
            refine then_norm ?_
            refine awp_go hmix ?_
            refine go_run' ttok 3 rfl ?_
            refine go_nil nd ?_
            have e15 := of_some hz10
            subst e15
            refine then_norm ⟨rfl, ((max most1 wv), (W64 (i + 1))), [], ⟨rfl, rfl, rfl, rfl, rfl, ⟨wkP_id _ rfl, wkP_id _ rfl, trivial⟩, trivial⟩, hk11⟩
          · replace hz10 := of_bif_f hz10 c12
            refine awp_exit ?_
            refine then_exit ?_
            obtain ⟨t, hn16, hq⟩ := of_mapr' hz10
            subst hq
            have hq : t = _ := hk11
            subst hq
            refine then_exit ?_
            refine block_here ?_
            have e17 := of_some hn16
            refine then_norm ⟨rfl, most1, [], ⟨rfl, rfl, rfl, rfl, rfl, ⟨wkP_id _ rfl, trivial⟩, trivial⟩, e17⟩
        · intro most hw9
          subst hw9
          refine awp_seq ?_
          refine awp_go hmix ?_
          refine go_run' ttok 2 rfl ?_
          refine go_nil nd ?_
          refine then_norm ?_
          refine awp_ret ?_
          have e18 := of_some h
          subst e18
          refine ret_ret ?_
          refine fin0 ttok rfl rfl ?_
          exact (wkP_refl _ rfl)

/-- sawmill/sawmillref41.Knots -/
noncomputable def r41_Knots_g (b : TBoard) : Option Int :=
  (bif (decide ((r41_Width_g b) < 1)) then some 0 else (Option.bind (r13_Worst_g b.Defects 150) (fun wv => (bif ((r41_Width_g b) != 0) then some (min 1000 (W64 (Int.tdiv (W64 (wv * 1000)) (r41_Width_g b)))) else none))))
theorem r41_Knots_w (b : TBoard) (r : Int) (h : r41_Knots_g b = some r) : Holds Try.prog 19 [(encTBoard b)] [] (I r) [] := by
  unfold r41_Knots_g at h
  refine holds_fn Try.func19 rfl Try.ntmps19 rfl rfl rfl ?_
  refine awp_seq ?_
  refine awp_go hmix ?_
  refine go_run' ttok 2 rfl ?_
  refine go_nil nd ?_
  refine then_norm ?_
  refine awp_seq ?_
  refine awp_seq ?_
  refine awp_go hmix ?_
  refine go_run' ttok 1 rfl ?_
  refine go_call fn52 (r41_Width_w b _ rfl) rfl rfl rfl rfl rfl rfl rfl ?_
  refine go_run' ttok 1 rfl ?_
  refine go_nil nd ?_
  refine then_norm ?_
  refine awp_cond (b := (decide ((r41_Width_g b) < 1))) rfl (fun c1 => ?_) (fun c1 => ?_)
  · replace h := of_bif_t h c1
    refine awp_seq ?_
    refine awp_go hmix ?_
    refine go_run' ttok 1 rfl ?_
    refine go_nil nd ?_
    refine then_norm ?_
    refine awp_ret ?_
    refine then_ret ?_
    have e2 := of_some h
    subst e2
    refine ret_ret ?_
    refine fin0 ttok rfl rfl ?_
    exact (wkP_refl _ rfl)
  · replace h := of_bif_f h c1
    refine awp_skip ?_
    refine then_norm ?_
    refine awp_seq ?_
    refine awp_go hmix ?_
    refine go_run' ttok 2 rfl ?_
    obtain ⟨wv, hv3, h⟩ := of_obind h
    refine go_call fn46 (r13_Worst_w b.Defects 150 wv hv3) rfl rfl rfl rfl rfl rfl rfl ?_
    refine go_run' ttok 2 rfl ?_
    refine go_call fn52 (r41_Width_w b _ rfl) rfl rfl rfl rfl rfl rfl rfl ?_
    obtain ⟨hd4, h⟩ := of_grd h
    refine go_quoT (W64 (wv * 1000)) (r41_Width_g b) hd4 rfl rfl rfl rfl rfl ?_
    refine go_run' ttok 2 rfl ?_
    refine go_nil (fun _ => by kernel_rfl) ?_
    refine then_norm ?_
    refine awp_ret ?_
    have e5 := of_some h
    subst e5
    refine ret_ret ?_
    refine fin0 ttok rfl rfl ?_
    exact (wkP_refl _ rfl)

/-- sawmill/sawmillref36.Mean -/
noncomputable def r36_Mean_g (c : TCell) : Int :=
  (bif ((r36_Check_g c) != 0) then 0 else (W64 (Int.tdiv (W64 (c.Surf + (W64 (2 * c.Core)))) 3)))
theorem r36_Mean_w (c : TCell) (r : Int) (h : r36_Mean_g c = r) : Holds Try.prog 58 [(encTCell c)] [] (I r) [] := by
  unfold r36_Mean_g at h
  refine holds_fn Try.func58 rfl Try.ntmps58 rfl rfl rfl ?_
  refine awp_seq ?_
  refine awp_go hmix ?_
  refine go_run' ttok 2 rfl ?_
  refine go_nil nd ?_
  refine then_norm ?_
  refine awp_seq ?_
  refine awp_seq ?_
  refine awp_go hmix ?_
  refine go_run' ttok 1 rfl ?_
  refine go_call fn53 (r36_Check_w c _ rfl) rfl rfl rfl rfl rfl rfl rfl ?_
  refine go_run' ttok 1 rfl ?_
  refine go_nil nd ?_
  refine then_norm ?_
  refine awp_cond (b := ((r36_Check_g c) != 0)) rfl (fun c1 => ?_) (fun c1 => ?_)
  · replace h := of_bif_t h c1
    refine awp_seq ?_
    refine awp_go hmix ?_
    refine go_run' ttok 1 rfl ?_
    refine go_nil nd ?_
    refine then_norm ?_
    refine awp_ret ?_
    refine then_ret ?_
    have e2 := h
    subst e2
    refine ret_ret ?_
    refine fin0 ttok rfl rfl ?_
    exact (wkP_refl _ rfl)
  · replace h := of_bif_f h c1
    refine awp_skip ?_
    refine then_norm ?_
    refine awp_seq ?_
    refine awp_go hmix ?_
    refine go_run' ttok 8 rfl ?_
    refine go_nil nd ?_
    refine then_norm ?_
    refine awp_ret ?_
    have e3 := h
    subst e3
    refine ret_ret ?_
    refine fin0 ttok rfl rfl ?_
    exact (wkP_refl _ rfl)

/-- sawmill/sawmillref41.Stiffness -/
noncomputable def r41_Stiffness_g (b : TBoard) (s : TSpecies) : Option Int :=
  (Option.bind (r41_Knots_g b) (fun kv => some (max 0 (W64 (Int.tdiv (W64 ((W64 (Int.tdiv (W64 (s.Stiff * (W64 (1000 - (W64 (Int.tdiv (W64 (s.KnotLoss * kv)) 1000)))))) 1000)) * (W64 (10000 - (max 0 (W64 ((r36_Mean_g b.Cell) - 1200))))))) 10000)))))
theorem r41_Stiffness_w (b : TBoard) (s : TSpecies) (r : Int) (h : r41_Stiffness_g b s = some r) : Holds Try.prog 21 [(encTBoard b), (encTSpecies s)] [] (I r) [] := by
  unfold r41_Stiffness_g at h
  refine holds_fn Try.func21 rfl Try.ntmps21 rfl rfl rfl ?_
  refine awp_seq ?_
  refine awp_go hmix ?_
  refine go_run' ttok 3 rfl ?_
  refine go_nil nd ?_
  refine then_norm ?_
  refine awp_seq ?_
  refine awp_go hmix ?_
  refine go_run' ttok 3 rfl ?_
  obtain ⟨kv, hv1, h⟩ := of_obind h
  refine go_call fn19 (r41_Knots_w b kv hv1) rfl rfl rfl rfl rfl rfl rfl ?_
  refine go_run' ttok 3 rfl ?_
  refine go_nil (fun _ => by kernel_rfl) ?_
  refine then_norm ?_
  refine awp_seq ?_
  refine awp_go hmix ?_
  refine go_run' ttok 7 rfl ?_
  refine go_nil nd ?_
  refine then_norm ?_
  refine awp_seq ?_
  refine awp_go hmix ?_
  refine go_run' ttok 2 rfl ?_
  refine go_call fn58 (r36_Mean_w b.Cell _ rfl) rfl rfl rfl rfl rfl rfl rfl ?_
  refine go_run' ttok 3 rfl ?_
  refine go_nil nd ?_
  refine then_norm ?_
  refine awp_seq ?_
  refine awp_go hmix ?_
  refine go_run' ttok 7 rfl ?_
  refine go_nil nd ?_
  refine then_norm ?_
  refine awp_ret ?_
  have e2 := of_some h
  subst e2
  refine ret_ret ?_
  refine fin0 ttok rfl rfl ?_
  exact (wkP_refl _ rfl)

/-- sawmill/sawmilllaw41.StrengthOf -/
noncomputable def l41_StrengthOf_g (b : TBoard) (s : TSpecies) : Option Bool :=
  (bif (!(l41_few_g b s)) then (Option.bind l41_awake_g (fun av => some av)) else (Option.bind (r41_Right_g b s) (fun rv => (bif (!rv) then (Option.bind l41_awake_g (fun av1 => some av1)) else (Option.bind (strength_Knots_g b) (fun kv => (Option.bind (r41_Knots_g b) (fun kv1 => (bif (kv == kv1) then (Option.bind (strength_Stiffness_g b s) (fun sv => (Option.bind (r41_Stiffness_g b s) (fun sv1 => (bif (sv == sv1) then (Option.bind l41_awake_g (fun av2 => some av2)) else some false))))) else some false)))))))))
theorem l41_StrengthOf_w (b : TBoard) (s : TSpecies) (r : Bool) (h : l41_StrengthOf_g b s = some r) : Holds Try.prog 3 [(encTBoard b), (encTSpecies s)] [] (B r) [] := by
  unfold l41_StrengthOf_g at h
  refine holds_fn Try.func3 rfl Try.ntmps3 rfl rfl rfl ?_
  refine awp_seq ?_
  refine awp_go hmix ?_
  refine go_run' ttok 3 rfl ?_
  refine go_nil nd ?_
  refine then_norm ?_
  refine awp_seq ?_
  refine awp_seq ?_
  refine awp_go hmix ?_
  refine go_run' ttok 2 rfl ?_
  refine go_call fn15 (l41_few_w b s _ rfl) rfl rfl rfl rfl rfl rfl rfl ?_
  refine go_run' ttok 2 rfl ?_
  refine go_gcase rfl rfl rfl (fun g1 => ?_) (fun g1 => ?_)
  · rw [g1]
    replace h := of_bif_t h g1
    refine go_run' ttok 5 rfl ?_
    refine go_nil nd ?_
    refine then_norm ?_
    refine awp_cond rfl (fun tt0 => ?_) (fun h => by cases h)
    clear tt0
    refine awp_seq ?_
    refine awp_go hmix ?_
    obtain ⟨av, hv2, h⟩ := of_obind h
    refine go_call fn17 (l41_awake_w av hv2) rfl rfl rfl rfl rfl rfl rfl ?_
    refine go_run' ttok 1 rfl ?_
    refine go_nil nd ?_
    refine then_norm ?_
    refine awp_ret ?_
    refine then_ret ?_
    have e3 := of_some h
    subst e3
    refine ret_ret ?_
    refine fin0 ttok rfl rfl ?_
    exact (wkP_refl _ rfl)
  · rw [g1]
    replace h := of_bif_f h g1
    refine go_run' ttok 2 rfl ?_
    obtain ⟨rv, hv4, h⟩ := of_obind h
    refine go_call fn16 (r41_Right_w b s rv hv4) rfl rfl rfl rfl rfl rfl rfl ?_
    refine go_run' ttok 2 rfl ?_
    refine go_nil nd ?_
    refine then_norm ?_
    refine awp_cond (b := (!rv)) rfl (fun c5 => ?_) (fun c5 => ?_)
    · replace h := of_bif_t h c5
      refine awp_seq ?_
      refine awp_go hmix ?_
      obtain ⟨av1, hv6, h⟩ := of_obind h
      refine go_call fn17 (l41_awake_w av1 hv6) rfl rfl rfl rfl rfl rfl rfl ?_
      refine go_run' ttok 1 rfl ?_
      refine go_nil nd ?_
      refine then_norm ?_
      refine awp_ret ?_
      refine then_ret ?_
      have e7 := of_some h
      subst e7
      refine ret_ret ?_
      refine fin0 ttok rfl rfl ?_
      exact (wkP_refl _ rfl)
    · replace h := of_bif_f h c5
      refine awp_skip ?_
      refine then_norm ?_
      refine awp_seq ?_
      refine awp_go hmix ?_
      refine go_run' ttok 1 rfl ?_
      obtain ⟨kv, hv8, h⟩ := of_obind h
      refine go_call fn18 (strength_Knots_w b kv hv8) rfl rfl rfl rfl rfl rfl rfl ?_
      refine go_run' ttok 1 rfl ?_
      obtain ⟨kv1, hv9, h⟩ := of_obind h
      refine go_call fn19 (r41_Knots_w b kv1 hv9) rfl rfl rfl rfl rfl rfl rfl ?_
      refine go_run' ttok 2 rfl ?_
      refine go_gcase rfl rfl rfl (fun g10 => ?_) (fun g10 => ?_)
      · rw [g10]
        replace h := of_bif_t h g10
        refine go_run' ttok 2 rfl ?_
        obtain ⟨sv, hv11, h⟩ := of_obind h
        refine go_call fn20 (strength_Stiffness_w b s sv hv11) rfl rfl rfl rfl rfl rfl rfl ?_
        refine go_run' ttok 2 rfl ?_
        obtain ⟨sv1, hv12, h⟩ := of_obind h
        refine go_call fn21 (r41_Stiffness_w b s sv1 hv12) rfl rfl rfl rfl rfl rfl rfl ?_
        refine go_run' ttok 3 rfl ?_
        refine go_gcase rfl rfl rfl (fun g13 => ?_) (fun g13 => ?_)
        · rw [g13]
          replace h := of_bif_t h g13
          obtain ⟨av2, hv14, h⟩ := of_obind h
          refine go_call fn17 (l41_awake_w av2 hv14) rfl rfl rfl rfl rfl rfl rfl ?_
          refine go_run' ttok 2 rfl ?_
          refine go_nil (fun _ => by kernel_rfl) ?_
          refine then_norm ?_
          refine awp_ret ?_
          have e15 := of_some h
          subst e15
          refine ret_ret ?_
          refine fin0 ttok rfl rfl ?_
          exact (wkP_refl _ rfl)
        · rw [g13]
          replace h := of_bif_f h g13
          refine go_run' ttok 3 rfl ?_
          refine go_nil (fun _ => by kernel_rfl) ?_
          refine then_norm ?_
          refine awp_ret ?_
          have e16 := of_some h
          subst e16
          refine ret_ret ?_
          refine fin0 ttok rfl rfl ?_
          exact (wkP_refl _ rfl)
      · rw [g10]
        replace h := of_bif_f h g10
        refine go_run' ttok 12 rfl ?_
        refine go_nil (fun _ => by kernel_rfl) ?_
        refine then_norm ?_
        refine awp_ret ?_
        have e17 := of_some h
        subst e17
        refine ret_ret ?_
        refine fin0 ttok rfl rfl ?_
        exact (wkP_refl _ rfl)

end Go.Proofs.Ytbgoflekklfdjaa
