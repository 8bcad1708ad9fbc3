/- A1c: what functions of the program compute (written by mod.py). -/
import Derived.Test.YtjdgaclkcmjjcaaA1b
import Derived.KernelRfl
namespace Go.Proofs.Ytjdgaclkcmjjcaa
open Go Go.Ab
set_option linter.unusedSimpArgs false
set_option linter.unusedVariables false
set_option maxRecDepth 20000

noncomputable def r10_Check_s1 (s : TSection) (i : Int) : Option (Int ⊕ (Int ⊕ Unit)) :=
  (bif (decide (i < ((s.Rows.length : Nat) : Int))) then (Option.bind (getI s.Rows i) (fun e => (bif (r10_beyond_g e.a) then some (Sum.inr (Sum.inl 9)) else (Option.bind (getI s.Rows i) (fun e1 => (bif (r10_beyond_g e1.b) then some (Sum.inr (Sum.inl 9)) else some (Sum.inl (W64 (i + 1))))))))) else some (Sum.inr (Sum.inr ())))
noncomputable def r10_Check_s2 (s : TSection) (i1 : Int) : Option (Int ⊕ (Int ⊕ Unit)) :=
  (bif (decide (i1 < ((s.Rows.length : Nat) : Int))) then (Option.bind (getI s.Rows i1) (fun e4 => (bif (r10_empty_g e4) then (Option.bind (getI s.Rows i1) (fun e5 => (bif (!(eqV encSp e5 (⟨0, 0⟩ : Sp))) then some (Sum.inr (Sum.inl 19)) else some (Sum.inl (W64 (i1 + 1)))))) else some (Sum.inl (W64 (i1 + 1)))))) else some (Sum.inr (Sum.inr ())))
/-- sawmill/sawmillref10.Check -/
noncomputable def r10_Check_g (s : TSection) : Option Int :=
  (bif (decide (120 < ((s.Rows.length : Nat) : Int))) then some 4 else (bif (decide (s.Low < (-60))) then some 9 else (bif (decide ((W64 (60 - ((s.Rows.length : Nat) : Int))) < s.Low)) then some 9 else (Option.bind ((loopO (fun q => r10_Check_s1 s q) 0) : Option (Int ⊕ Unit)) (Sum.elim (fun q => some q) (fun _ => (bif (((s.Rows.length : Nat) : Int) == 0) then (bif (s.Low != 0) then some 19 else some 0) else (Option.bind (getI s.Rows 0) (fun e2 => (bif (r10_empty_g e2) then some 19 else (Option.bind (getI s.Rows (W64 (((s.Rows.length : Nat) : Int) - 1))) (fun e3 => (bif (r10_empty_g e3) then some 19 else (Option.bind ((loopO (fun q => r10_Check_s2 s q) 0) : Option (Int ⊕ Unit)) (Sum.elim (fun q => some q) (fun _ => some 0))))))))))))))))
theorem r10_Check_w (s : TSection) (r : Int) (h : r10_Check_g s = some r) : Holds Try.prog 79 [(encTSection s)] [] (I r) [] := by
  unfold r10_Check_g at h
  refine holds_fn Try.func79 rfl Try.ntmps79 rfl rfl rfl ?_
  refine awp_seq ?_
  refine awp_go hmix ?_
  refine go_run' ttok 2 rfl ?_
  refine go_nil nd ?_
  refine then_norm ?_
  refine awp_seq ?_
  refine awp_go hmix ?_
  refine go_run' ttok 2 rfl ?_
  refine go_lenT encSp s.Rows ttok rfl rfl rfl rfl rfl rfl ?_
  refine go_run' ttok 1 rfl ?_
  refine go_nil nd ?_
  refine then_norm ?_
  refine awp_seq ?_
  refine awp_seq ?_
  refine awp_go hmix ?_
  refine go_run' ttok 2 rfl ?_
  refine go_nil nd ?_
  refine then_norm ?_
  refine awp_cond (b := (decide (120 < ((s.Rows.length : Nat) : Int)))) rfl (fun c1 => ?_) (fun c1 => ?_)
  · replace h := of_bif_t h c1
    refine awp_seq ?_
    refine awp_go hmix ?_
    refine go_run' ttok 1 rfl ?_
    refine go_nil nd ?_
    refine then_norm ?_
    refine awp_ret ?_
    refine then_ret ?_
    have e2 := of_some h
    subst e2
    refine ret_ret ?_
    refine fin0 ttok rfl rfl ?_
    exact (wkP_refl _ rfl)
  · replace h := of_bif_f h c1
    refine awp_skip ?_
    refine then_norm ?_
    refine awp_seq ?_
    refine awp_seq ?_
    refine awp_go hmix ?_
    refine go_run' ttok 4 rfl ?_
    refine go_gcase rfl rfl rfl (fun g3 => ?_) (fun g3 => ?_)
    · rw [g3]
      replace h := of_bif_t h g3
      refine go_run' ttok 6 rfl ?_
      refine go_nil nd ?_
      refine then_norm ?_
      refine awp_cond rfl (fun tt0 => ?_) (fun h => by cases h)
      clear tt0
      refine awp_seq ?_
      refine awp_go hmix ?_
      refine go_run' ttok 1 rfl ?_
      refine go_nil nd ?_
      refine then_norm ?_
      refine awp_ret ?_
      refine then_ret ?_
      have e4 := of_some h
      subst e4
      refine ret_ret ?_
      refine fin0 ttok rfl rfl ?_
      exact (wkP_refl _ rfl)
    · rw [g3]
      replace h := of_bif_f h g3
      refine go_run' ttok 6 rfl ?_
      refine go_nil nd ?_
      refine then_norm ?_
      refine awp_cond (b := (decide ((W64 (60 - ((s.Rows.length : Nat) : Int))) < s.Low))) rfl (fun c5 => ?_) (fun c5 => ?_)
      · replace h := of_bif_t h c5
        refine awp_seq ?_
        refine awp_go hmix ?_
        refine go_run' ttok 1 rfl ?_
        refine go_nil nd ?_
        refine then_norm ?_
        refine awp_ret ?_
        refine then_ret ?_
        have e6 := of_some h
        subst e6
        refine ret_ret ?_
        refine fin0 ttok rfl rfl ?_
        exact (wkP_refl _ rfl)
      · replace h := of_bif_f h c5
        refine awp_skip ?_
        refine then_norm ?_
        obtain ⟨y, hx7, h⟩ := of_obind h
        refine awp_seqJ (X := Unit) [1, 3] [1] (fun _ => []) (fun _ => []) (fun w => Sum.inr w = y) rfl rfl ?_ ?_
        · skip
          refine awp_seq ?_
          refine awp_go hmix ?_
          refine go_run' ttok 1 rfl ?_
          refine go_nil nd ?_
          refine then_norm ?_
          refine awp_block ?_
          refine awp_loopD (X := Int) (Y := (Int ⊕ Unit)) [1, 3] [1] (fun q => [(4, (I q))]) (fun q => []) (fun q => r10_Check_s1 s q) 0 [(1, some 1)] hx7 ⟨rfl, rfl, rfl, rfl, rfl, ⟨wkP_id _ rfl, trivial⟩, trivial⟩ (fun i vR vz hz9 hk10 => ?_)
          change r10_Check_s1 s i = _ at hz9
          unfold r10_Check_s1 at hz9
          refine awp_seq ?_
          refine awp_seq ?_
          refine awp_go hmix ?_
          refine go_run' ttok 3 rfl ?_
          refine go_nil nd ?_
          refine then_norm ?_
          refine awp_cond (b := (decide (i < ((s.Rows.length : Nat) : Int)))) rfl (fun c11 => ?_) (fun c11 => ?_)
          · replace hz9 := of_bif_t hz9 c11
            refine awp_skip ?_
            refine then_norm ?_
            refine awp_seq ?_
            refine awp_block ?_
            refine awp_seq ?_
            refine awp_go hmix ?_
            refine go_run' ttok 3 rfl ?_
            obtain ⟨e, hv12, hz9⟩ := of_obind hz9
            refine go_indexT encSp s.Rows i e hv12 ttok rfl rfl rfl rfl rfl rfl rfl rfl rfl ?_
            refine go_run' ttok 2 rfl ?_
            refine go_call fn93 (r10_beyond_w e.a _ rfl) rfl rfl rfl rfl rfl rfl rfl ?_
            refine go_run' ttok 1 rfl ?_
            refine go_gcase rfl rfl rfl (fun g13 => ?_) (fun g13 => ?_)
            · rw [g13]
              replace hz9 := of_bif_t hz9 g13
              refine go_run' ttok 8 rfl ?_
              refine go_nil nd ?_
              refine then_norm ?_
              refine awp_cond rfl (fun tt0 => ?_) (fun h => by cases h)
              clear tt0
              refine awp_seq ?_
              refine awp_go hmix ?_
              refine go_run' ttok 1 rfl ?_
              refine go_nil nd ?_
              refine then_norm ?_
              refine awp_ret ?_
              refine block_ret ?_
              refine then_ret ?_
              obtain ⟨t, hn14, hq⟩ := of_mapr' hz9
              subst hq
              have hq : t = _ := hk10
              subst hq
              refine then_ret ?_
              refine block_ret ?_
              obtain ⟨t1, hn15, hq⟩ := of_mapl' hn14
              subst hq
              have hq := of_inl h
              replace hq := of_some hq
              subst hq
              refine then_ret ?_
              have e16 := of_some hn15
              subst e16
              refine ret_ret ?_
              refine fin0 ttok rfl rfl ?_
              exact (wkP_refl _ rfl)
            · rw [g13]
              replace hz9 := of_bif_f hz9 g13
              refine go_run' ttok 3 rfl ?_
              obtain ⟨e1, hv17, hz9⟩ := of_obind hz9
              refine go_indexT encSp s.Rows i e1 hv17 ttok rfl rfl rfl rfl rfl rfl rfl rfl rfl ?_
              refine go_run' ttok 2 rfl ?_
              refine go_call fn93 (r10_beyond_w e1.b _ rfl) rfl rfl rfl rfl rfl rfl rfl ?_
              refine go_run' ttok 1 rfl ?_
              refine go_nil nd ?_
              refine then_norm ?_
              refine awp_cond (b := (r10_beyond_g e1.b)) rfl (fun c18 => ?_) (fun c18 => ?_)
              · replace hz9 := of_bif_t hz9 c18
                refine awp_seq ?_
                refine awp_go hmix ?_
                refine go_run' ttok 1 rfl ?_
                refine go_nil nd ?_
                refine then_norm ?_
                refine awp_ret ?_
                refine block_ret ?_
                refine then_ret ?_
                obtain ⟨t2, hn19, hq⟩ := of_mapr' hz9
                subst hq
                have hq : t2 = _ := hk10
                subst hq
                refine then_ret ?_
                refine block_ret ?_
                obtain ⟨t3, hn20, hq⟩ := of_mapl' hn19
                subst hq
                have hq := of_inl h
                replace hq := of_some hq
                subst hq
                refine then_ret ?_
                have e21 := of_some hn20
                subst e21
                refine ret_ret ?_
                refine fin0 ttok rfl rfl ?_
                exact (wkP_refl _ rfl)
              · replace hz9 := of_bif_f hz9 c18
                refine awp_skip ?_
                refine block_norm ?_
                refine then_norm ?_
                refine awp_go hmix ?_
                refine go_run' ttok 3 rfl ?_
                refine go_nil nd ?_
                have e22 := of_some hz9
                subst e22
                refine then_norm ⟨rfl, (W64 (i + 1)), [(1, some 1)], ⟨rfl, rfl, rfl, rfl, rfl, ⟨wkP_id _ rfl, trivial⟩, trivial⟩, hk10⟩
          · replace hz9 := of_bif_f hz9 c11
            refine awp_exit ?_
            refine then_exit ?_
            obtain ⟨t4, hn23, hq⟩ := of_mapr' hz9
            subst hq
            have hq : t4 = _ := hk10
            subst hq
            refine then_exit ?_
            refine block_here ?_
            have e24 := of_some hn23
            refine then_norm ⟨rfl, (), [(1, some 1)], ⟨rfl, rfl, rfl, rfl, rfl, trivial, trivial⟩, e24⟩
        · intro w hw8
          subst hw8
          replace h := of_inr h
          refine awp_seq ?_
          refine awp_seq ?_
          refine awp_go hmix ?_
          refine go_run' ttok 2 rfl ?_
          refine go_nil nd ?_
          refine then_norm ?_
          refine awp_cond (b := (((s.Rows.length : Nat) : Int) == 0)) rfl (fun c25 => ?_) (fun c25 => ?_)
          · replace h := of_bif_t h c25
            refine awp_seq ?_
            refine awp_seq ?_
            refine awp_go hmix ?_
            refine go_run' ttok 3 rfl ?_
            refine go_nil nd ?_
            refine then_norm ?_
            refine awp_cond (b := (s.Low != 0)) rfl (fun c26 => ?_) (fun c26 => ?_)
            · replace h := of_bif_t h c26
              refine awp_seq ?_
              refine awp_go hmix ?_
              refine go_run' ttok 1 rfl ?_
              refine go_nil nd ?_
              refine then_norm ?_
              refine awp_ret ?_
              refine then_ret ?_
              refine then_ret ?_
              have e27 := of_some h
              subst e27
              refine ret_ret ?_
              refine fin0 ttok rfl rfl ?_
              exact (wkP_refl _ rfl)
            · replace h := of_bif_f h c26
              refine awp_skip ?_
              refine then_norm ?_
              refine awp_seq ?_
              refine awp_go hmix ?_
              refine go_run' ttok 1 rfl ?_
              refine go_nil nd ?_
              refine then_norm ?_
              refine awp_ret ?_
              refine then_ret ?_
              have e28 := of_some h
              subst e28
              refine ret_ret ?_
              refine fin0 ttok rfl rfl ?_
              exact (wkP_refl _ rfl)
          · replace h := of_bif_f h c25
            refine awp_skip ?_
            refine then_norm ?_
            refine awp_seq ?_
            refine awp_seq ?_
            refine awp_go hmix ?_
            refine go_run' ttok 2 rfl ?_
            obtain ⟨e2, hv29, h⟩ := of_obind h
            refine go_indexT encSp s.Rows 0 e2 hv29 ttok rfl rfl rfl rfl rfl rfl rfl rfl rfl ?_
            refine go_run' ttok 1 rfl ?_
            refine go_call fn84 (r10_empty_w e2 _ rfl) rfl rfl rfl rfl rfl rfl rfl ?_
            refine go_run' ttok 1 rfl ?_
            refine go_gcase rfl rfl rfl (fun g30 => ?_) (fun g30 => ?_)
            · rw [g30]
              replace h := of_bif_t h g30
              refine go_run' ttok 8 rfl ?_
              refine go_nil nd ?_
              refine then_norm ?_
              refine awp_cond rfl (fun tt0 => ?_) (fun h => by cases h)
              clear tt0
              refine awp_seq ?_
              refine awp_go hmix ?_
              refine go_run' ttok 1 rfl ?_
              refine go_nil nd ?_
              refine then_norm ?_
              refine awp_ret ?_
              refine then_ret ?_
              have e31 := of_some h
              subst e31
              refine ret_ret ?_
              refine fin0 ttok rfl rfl ?_
              exact (wkP_refl _ rfl)
            · rw [g30]
              replace h := of_bif_f h g30
              refine go_run' ttok 4 rfl ?_
              obtain ⟨e3, hv32, h⟩ := of_obind h
              refine go_indexT encSp s.Rows (W64 (((s.Rows.length : Nat) : Int) - 1)) e3 hv32 ttok rfl rfl rfl rfl rfl rfl rfl rfl rfl ?_
              refine go_run' ttok 1 rfl ?_
              refine go_call fn84 (r10_empty_w e3 _ rfl) rfl rfl rfl rfl rfl rfl rfl ?_
              refine go_run' ttok 1 rfl ?_
              refine go_nil nd ?_
              refine then_norm ?_
              refine awp_cond (b := (r10_empty_g e3)) rfl (fun c33 => ?_) (fun c33 => ?_)
              · replace h := of_bif_t h c33
                refine awp_seq ?_
                refine awp_go hmix ?_
                refine go_run' ttok 1 rfl ?_
                refine go_nil nd ?_
                refine then_norm ?_
                refine awp_ret ?_
                refine then_ret ?_
                have e34 := of_some h
                subst e34
                refine ret_ret ?_
                refine fin0 ttok rfl rfl ?_
                exact (wkP_refl _ rfl)
              · replace h := of_bif_f h c33
                refine awp_skip ?_
                refine then_norm ?_
                obtain ⟨y1, hx35, h⟩ := of_obind h
                refine awp_seqJ (X := Unit) [] [] (fun _ => []) (fun _ => []) (fun w1 => Sum.inr w1 = y1) rfl rfl ?_ ?_
                · skip
                  refine awp_seq ?_
                  refine awp_go hmix ?_
                  refine go_run' ttok 1 rfl ?_
                  refine go_nil nd ?_
                  refine then_norm ?_
                  refine awp_block ?_
                  refine awp_loopD (X := Int) (Y := (Int ⊕ Unit)) [1, 3] [1] (fun q => [(5, (I q))]) (fun q => []) (fun q => r10_Check_s2 s q) 0 [(1, some 1)] hx35 ⟨rfl, rfl, rfl, rfl, rfl, ⟨wkP_id _ rfl, trivial⟩, trivial⟩ (fun i1 vR1 vz1 hz37 hk38 => ?_)
                  change r10_Check_s2 s i1 = _ at hz37
                  unfold r10_Check_s2 at hz37
                  refine awp_seq ?_
                  refine awp_seq ?_
                  refine awp_go hmix ?_
                  refine go_run' ttok 3 rfl ?_
                  refine go_nil nd ?_
                  refine then_norm ?_
                  refine awp_cond (b := (decide (i1 < ((s.Rows.length : Nat) : Int)))) rfl (fun c39 => ?_) (fun c39 => ?_)
                  · replace hz37 := of_bif_t hz37 c39
                    refine awp_skip ?_
                    refine then_norm ?_
                    refine awp_seq ?_
                    refine awp_block ?_
                    refine awp_seq ?_
                    refine awp_go hmix ?_
                    refine go_run' ttok 3 rfl ?_
                    obtain ⟨e4, hv40, hz37⟩ := of_obind hz37
                    refine go_indexT encSp s.Rows i1 e4 hv40 ttok rfl rfl rfl rfl rfl rfl rfl rfl rfl ?_
                    refine go_run' ttok 1 rfl ?_
                    refine go_call fn84 (r10_empty_w e4 _ rfl) rfl rfl rfl rfl rfl rfl rfl ?_
                    refine go_run' ttok 1 rfl ?_
                    refine go_gcase rfl rfl rfl (fun g41 => ?_) (fun g41 => ?_)
                    · rw [g41]
                      replace hz37 := of_bif_t hz37 g41
                      refine go_run' ttok 3 rfl ?_
                      obtain ⟨e5, hv42, hz37⟩ := of_obind hz37
                      refine go_indexT encSp s.Rows i1 e5 hv42 ttok rfl rfl rfl rfl rfl rfl rfl rfl rfl ?_
                      refine go_run' ttok 2 rfl ?_
                      refine go_step rfl (as_neAgg shSp rfl eqT32_1 eqT32_2 (by decide) rfl rfl rfl rfl rfl) rfl rfl rfl ?_
                      refine go_run' ttok 1 rfl ?_
                      refine go_nil nd ?_
                      refine then_norm ?_
                      refine awp_cond (b := (!(eqV encSp e5 (⟨0, 0⟩ : Sp)))) rfl (fun c43 => ?_) (fun c43 => ?_)
                      · replace hz37 := of_bif_t hz37 c43
                        refine awp_seq ?_
                        refine awp_go hmix ?_
                        refine go_run' ttok 1 rfl ?_
                        refine go_nil nd ?_
                        refine then_norm ?_
                        refine awp_ret ?_
                        refine block_ret ?_
                        refine then_ret ?_
                        obtain ⟨t5, hn44, hq⟩ := of_mapr' hz37
                        subst hq
                        have hq : t5 = _ := hk38
                        subst hq
                        refine then_ret ?_
                        refine block_ret ?_
                        obtain ⟨t6, hn45, hq⟩ := of_mapl' hn44
                        subst hq
                        have hq := of_inl h
                        replace hq := of_some hq
                        subst hq
                        refine then_ret ?_
                        have e46 := of_some hn45
                        subst e46
                        refine ret_ret ?_
                        refine fin0 ttok rfl rfl ?_
                        exact (wkP_refl _ rfl)
                      · replace hz37 := of_bif_f hz37 c43
                        refine awp_skip ?_
                        refine block_norm ?_
                        refine then_norm ?_
                        refine awp_go hmix ?_
                        refine go_run' ttok 3 rfl ?_
                        refine go_nil nd ?_
                        have e47 := of_some hz37
                        subst e47
                        refine then_norm ⟨rfl, (W64 (i1 + 1)), [(1, some 1)], ⟨rfl, rfl, rfl, rfl, rfl, ⟨wkP_id _ rfl, trivial⟩, trivial⟩, hk38⟩
                    · rw [g41]
                      replace hz37 := of_bif_f hz37 g41
                      refine go_run' ttok 8 rfl ?_
                      refine go_nil nd ?_
                      refine then_norm ?_
                      refine awp_cond rfl (fun h => by cases h) (fun tt0 => ?_)
                      clear tt0
                      refine awp_skip ?_
                      refine block_norm ?_
                      refine then_norm ?_
                      refine awp_go hmix ?_
                      refine go_run' ttok 3 rfl ?_
                      refine go_nil nd ?_
                      have e48 := of_some hz37
                      subst e48
                      refine then_norm ⟨rfl, (W64 (i1 + 1)), [(1, some 1)], ⟨rfl, rfl, rfl, rfl, rfl, ⟨wkP_id _ rfl, trivial⟩, trivial⟩, hk38⟩
                  · replace hz37 := of_bif_f hz37 c39
                    refine awp_exit ?_
                    refine then_exit ?_
                    obtain ⟨t7, hn49, hq⟩ := of_mapr' hz37
                    subst hq
                    have hq : t7 = _ := hk38
                    subst hq
                    refine then_exit ?_
                    refine block_here ?_
                    have e50 := of_some hn49
                    refine then_norm ⟨rfl, (), [], ⟨rfl, rfl, rfl, rfl, rfl, trivial, trivial⟩, e50⟩
                · intro w1 hw36
                  subst hw36
                  replace h := of_inr h
                  refine awp_seq ?_
                  refine awp_go hmix ?_
                  refine go_run' ttok 1 rfl ?_
                  refine go_nil nd ?_
                  refine then_norm ?_
                  refine awp_ret ?_
                  have e51 := of_some h
                  subst e51
                  refine ret_ret ?_
                  refine fin0 ttok rfl rfl ?_
                  exact (wkP_refl _ rfl)

noncomputable def r11_Check_s1 (l : (List TSlice)) (vsum : Int) (i : Int) : Option ((Int × Int) ⊕ (Int ⊕ Unit)) :=
  (bif (decide (i < ((l.length : Nat) : Int))) then (Option.bind (getI l i) (fun e => (Option.bind (r10_Check_g e.Sec) (fun cv => (bif (cv != 0) then some (Sum.inr (Sum.inl cv)) else (Option.bind (getI l i) (fun e1 => (bif (((e1.Sec.Rows.length : Nat) : Int) == 0) then some (Sum.inr (Sum.inl 18)) else (Option.bind (getI l i) (fun e2 => (bif (decide (e2.Len < 1)) then some (Sum.inr (Sum.inl 9)) else (Option.bind (getI l i) (fun e3 => (bif (decide ((W64 (20000 - vsum)) < e3.Len)) then some (Sum.inr (Sum.inl 9)) else (Option.bind (getI l i) (fun e4 => some (Sum.inl ((W64 (vsum + e4.Len)), (W64 (i + 1)))))))))))))))))))) else some (Sum.inr (Sum.inr ())))
/-- sawmill/sawmillref11.Check -/
noncomputable def r11_Check_g (l : (List TSlice)) : Option Int :=
  (bif (((l.length : Nat) : Int) == 0) then some 3 else (bif (decide (24 < ((l.length : Nat) : Int))) then some 4 else (Option.bind ((loopO (fun q => r11_Check_s1 l q.1 q.2) (0, 0)) : Option (Int ⊕ Unit)) (Sum.elim (fun q => some q) (fun _ => some 0)))))
theorem r11_Check_w (l : (List TSlice)) (r : Int) (h : r11_Check_g l = some r) : Holds Try.prog 58 [((encL encTSlice) l)] [] (I r) [] := by
  unfold r11_Check_g at h
  refine holds_fn Try.func58 rfl Try.ntmps58 rfl rfl rfl ?_
  refine awp_seq ?_
  refine awp_go hmix ?_
  refine go_run' ttok 1 rfl ?_
  refine go_nil nd ?_
  refine then_norm ?_
  refine awp_seq ?_
  refine awp_seq ?_
  refine awp_go hmix ?_
  refine go_run' ttok 1 rfl ?_
  refine go_lenT encTSlice l ttok rfl rfl rfl rfl rfl rfl ?_
  refine go_run' ttok 1 rfl ?_
  refine go_nil nd ?_
  refine then_norm ?_
  refine awp_cond (b := (((l.length : Nat) : Int) == 0)) rfl (fun c1 => ?_) (fun c1 => ?_)
  · replace h := of_bif_t h c1
    refine awp_seq ?_
    refine awp_go hmix ?_
    refine go_run' ttok 1 rfl ?_
    refine go_nil nd ?_
    refine then_norm ?_
    refine awp_ret ?_
    refine then_ret ?_
    have e2 := of_some h
    subst e2
    refine ret_ret ?_
    refine fin0 ttok rfl rfl ?_
    exact (wkP_refl _ rfl)
  · replace h := of_bif_f h c1
    refine awp_skip ?_
    refine then_norm ?_
    refine awp_seq ?_
    refine awp_seq ?_
    refine awp_go hmix ?_
    refine go_run' ttok 1 rfl ?_
    refine go_lenT encTSlice l ttok rfl rfl rfl rfl rfl rfl ?_
    refine go_run' ttok 1 rfl ?_
    refine go_nil nd ?_
    refine then_norm ?_
    refine awp_cond (b := (decide (24 < ((l.length : Nat) : Int)))) rfl (fun c3 => ?_) (fun c3 => ?_)
    · replace h := of_bif_t h c3
      refine awp_seq ?_
      refine awp_go hmix ?_
      refine go_run' ttok 1 rfl ?_
      refine go_nil nd ?_
      refine then_norm ?_
      refine awp_ret ?_
      refine then_ret ?_
      have e4 := of_some h
      subst e4
      refine ret_ret ?_
      refine fin0 ttok rfl rfl ?_
      exact (wkP_refl _ rfl)
    · replace h := of_bif_f h c3
      refine awp_skip ?_
      refine then_norm ?_
      refine awp_seq ?_
      refine awp_go hmix ?_
      refine go_run' ttok 1 rfl ?_
      refine go_nil nd ?_
      refine then_norm ?_
      obtain ⟨y, hx5, h⟩ := of_obind h
      refine awp_seqJ (X := Unit) [] [] (fun _ => []) (fun _ => []) (fun w => Sum.inr w = y) rfl rfl ?_ ?_
      · skip
        refine awp_seq ?_
        refine awp_go hmix ?_
        refine go_run' ttok 1 rfl ?_
        refine go_nil nd ?_
        refine then_norm ?_
        refine awp_block ?_
        refine awp_loopD (X := (Int × Int)) (Y := (Int ⊕ Unit)) [0] [] (fun q => [(3, (I q.1)), (4, (I q.2))]) (fun q => []) (fun q => r11_Check_s1 l q.1 q.2) (0, 0) [] hx5 ⟨rfl, rfl, rfl, rfl, rfl, ⟨wkP_id _ rfl, wkP_id _ rfl, trivial⟩, trivial⟩ (fun x vR vz hz7 hk8 => ?_)
        obtain ⟨vsum, i⟩ := x
        change r11_Check_s1 l vsum i = _ at hz7
        unfold r11_Check_s1 at hz7
        refine awp_seq ?_
        refine awp_seq ?_
        refine awp_go hmix ?_
        refine go_run' ttok 2 rfl ?_
        refine go_lenT encTSlice l ttok rfl rfl rfl rfl rfl rfl ?_
        refine go_run' ttok 1 rfl ?_
        refine go_nil nd ?_
        refine then_norm ?_
        refine awp_cond (b := (decide (i < ((l.length : Nat) : Int)))) rfl (fun c9 => ?_) (fun c9 => ?_)
        · replace hz7 := of_bif_t hz7 c9
          refine awp_skip ?_
          refine then_norm ?_
          refine awp_seq ?_
          refine awp_block ?_
          refine awp_seq ?_
          refine awp_seq ?_
          refine awp_go hmix ?_
          refine go_run' ttok 2 rfl ?_
          obtain ⟨e, hv10, hz7⟩ := of_obind hz7
          refine go_indexT encTSlice l i e hv10 ttok rfl rfl rfl rfl rfl rfl rfl rfl rfl ?_
          refine go_run' ttok 2 rfl ?_
          obtain ⟨cv, hv11, hz7⟩ := of_obind hz7
          refine go_call fn79 (r10_Check_w e.Sec cv hv11) rfl rfl rfl rfl rfl rfl rfl ?_
          refine go_run' ttok 1 rfl ?_
          refine go_nil nd ?_
          refine then_norm ?_
          refine awp_seq ?_
          refine awp_go hmix ?_
          refine go_run' ttok 2 rfl ?_
          refine go_nil nd ?_
          refine then_norm ?_
          refine awp_cond (b := (cv != 0)) rfl (fun c12 => ?_) (fun c12 => ?_)
          · replace hz7 := of_bif_t hz7 c12
            refine awp_seq ?_
            refine awp_go hmix ?_
            refine go_run' ttok 2 rfl ?_
            refine go_nil nd ?_
            refine then_norm ?_
            refine awp_ret ?_
            refine then_ret ?_
            refine block_ret ?_
            refine then_ret ?_
            obtain ⟨t, hn13, hq⟩ := of_mapr' hz7
            subst hq
            have hq : t = _ := hk8
            subst hq
            refine then_ret ?_
            refine block_ret ?_
            obtain ⟨t1, hn14, hq⟩ := of_mapl' hn13
            subst hq
            have hq := of_inl h
            replace hq := of_some hq
            subst hq
            refine then_ret ?_
            have e15 := of_some hn14
            subst e15
            refine ret_ret ?_
            refine fin0 ttok rfl rfl ?_
            exact (wkP_refl _ rfl)
          · replace hz7 := of_bif_f hz7 c12
            refine awp_skip ?_
            refine then_norm ?_
            refine awp_seq ?_
            refine awp_seq ?_
            refine awp_go hmix ?_
            refine go_run' ttok 2 rfl ?_
            obtain ⟨e1, hv16, hz7⟩ := of_obind hz7
            refine go_indexT encTSlice l i e1 hv16 ttok rfl rfl rfl rfl rfl rfl rfl rfl rfl ?_
            refine go_run' ttok 3 rfl ?_
            refine go_lenT encSp e1.Sec.Rows ttok rfl rfl rfl rfl rfl rfl ?_
            refine go_run' ttok 1 rfl ?_
            refine go_nil nd ?_
            refine then_norm ?_
            refine awp_cond (b := (((e1.Sec.Rows.length : Nat) : Int) == 0)) rfl (fun c17 => ?_) (fun c17 => ?_)
            · replace hz7 := of_bif_t hz7 c17
              refine awp_seq ?_
              refine awp_go hmix ?_
              refine go_run' ttok 1 rfl ?_
              refine go_nil nd ?_
              refine then_norm ?_
              refine awp_ret ?_
              refine then_ret ?_
              refine block_ret ?_
              refine then_ret ?_
              obtain ⟨t2, hn18, hq⟩ := of_mapr' hz7
              subst hq
              have hq : t2 = _ := hk8
              subst hq
              refine then_ret ?_
              refine block_ret ?_
              obtain ⟨t3, hn19, hq⟩ := of_mapl' hn18
              subst hq
              have hq := of_inl h
              replace hq := of_some hq
              subst hq
              refine then_ret ?_
              have e20 := of_some hn19
              subst e20
              refine ret_ret ?_
              refine fin0 ttok rfl rfl ?_
              exact (wkP_refl _ rfl)
            · replace hz7 := of_bif_f hz7 c17
              refine awp_skip ?_
              refine then_norm ?_
              refine awp_seq ?_
              refine awp_seq ?_
              refine awp_go hmix ?_
              refine go_run' ttok 2 rfl ?_
              obtain ⟨e2, hv21, hz7⟩ := of_obind hz7
              refine go_indexT encTSlice l i e2 hv21 ttok rfl rfl rfl rfl rfl rfl rfl rfl rfl ?_
              refine go_run' ttok 4 rfl ?_
              refine go_gcase rfl rfl rfl (fun g22 => ?_) (fun g22 => ?_)
              · rw [g22]
                replace hz7 := of_bif_t hz7 g22
                refine go_run' ttok 9 rfl ?_
                refine go_nil nd ?_
                refine then_norm ?_
                refine awp_cond rfl (fun tt0 => ?_) (fun h => by cases h)
                clear tt0
                refine awp_seq ?_
                refine awp_go hmix ?_
                refine go_run' ttok 1 rfl ?_
                refine go_nil nd ?_
                refine then_norm ?_
                refine awp_ret ?_
                refine then_ret ?_
                refine block_ret ?_
                refine then_ret ?_
                obtain ⟨t4, hn23, hq⟩ := of_mapr' hz7
                subst hq
                have hq : t4 = _ := hk8
                subst hq
                refine then_ret ?_
                refine block_ret ?_
                obtain ⟨t5, hn24, hq⟩ := of_mapl' hn23
                subst hq
                have hq := of_inl h
                replace hq := of_some hq
                subst hq
                refine then_ret ?_
                have e25 := of_some hn24
                subst e25
                refine ret_ret ?_
                refine fin0 ttok rfl rfl ?_
                exact (wkP_refl _ rfl)
              · rw [g22]
                replace hz7 := of_bif_f hz7 g22
                refine go_run' ttok 2 rfl ?_
                obtain ⟨e3, hv26, hz7⟩ := of_obind hz7
                refine go_indexT encTSlice l i e3 hv26 ttok rfl rfl rfl rfl rfl rfl rfl rfl rfl ?_
                refine go_run' ttok 6 rfl ?_
                refine go_nil nd ?_
                refine then_norm ?_
                refine awp_cond (b := (decide ((W64 (20000 - vsum)) < e3.Len))) rfl (fun c27 => ?_) (fun c27 => ?_)
                · replace hz7 := of_bif_t hz7 c27
                  refine awp_seq ?_
                  refine awp_go hmix ?_
                  refine go_run' ttok 1 rfl ?_
                  refine go_nil nd ?_
                  refine then_norm ?_
                  refine awp_ret ?_
                  refine then_ret ?_
                  refine block_ret ?_
                  refine then_ret ?_
                  obtain ⟨t6, hn28, hq⟩ := of_mapr' hz7
                  subst hq
                  have hq : t6 = _ := hk8
                  subst hq
                  refine then_ret ?_
                  refine block_ret ?_
                  obtain ⟨t7, hn29, hq⟩ := of_mapl' hn28
                  subst hq
                  have hq := of_inl h
                  replace hq := of_some hq
                  subst hq
                  refine then_ret ?_
                  have e30 := of_some hn29
                  subst e30
                  refine ret_ret ?_
                  refine fin0 ttok rfl rfl ?_
                  exact (wkP_refl _ rfl)
                · replace hz7 := of_bif_f hz7 c27
                  refine awp_skip ?_
                  refine then_norm ?_
                  refine awp_go hmix ?_
                  refine go_run' ttok 3 rfl ?_
                  obtain ⟨e4, hv31, hz7⟩ := of_obind hz7
                  refine go_indexT encTSlice l i e4 hv31 ttok rfl rfl rfl rfl rfl rfl rfl rfl rfl ?_
                  refine go_run' ttok 4 rfl ?_
                  refine go_nil nd ?_
                  refine block_norm ?_
                  refine then_norm ?_
                  refine awp_go hmix ?_
                  refine go_run' ttok 3 rfl ?_
                  refine go_nil nd ?_
                  have e32 := of_some hz7
                  subst e32
                  refine then_norm ⟨rfl, ((W64 (vsum + e4.Len)), (W64 (i + 1))), [], ⟨rfl, rfl, rfl, rfl, rfl, ⟨wkP_id _ rfl, wkP_id _ rfl, trivial⟩, trivial⟩, hk8⟩
        · replace hz7 := of_bif_f hz7 c9
          refine awp_exit ?_
          refine then_exit ?_
          obtain ⟨t8, hn33, hq⟩ := of_mapr' hz7
          subst hq
          have hq : t8 = _ := hk8
          subst hq
          refine then_exit ?_
          refine block_here ?_
          have e34 := of_some hn33
          refine then_norm ⟨rfl, (), [], ⟨rfl, rfl, rfl, rfl, rfl, trivial, trivial⟩, e34⟩
      · intro w hw6
        subst hw6
        replace h := of_inr h
        refine awp_seq ?_
        refine awp_go hmix ?_
        refine go_run' ttok 1 rfl ?_
        refine go_nil nd ?_
        refine then_norm ?_
        refine awp_ret ?_
        have e35 := of_some h
        subst e35
        refine ret_ret ?_
        refine fin0 ttok rfl rfl ?_
        exact (wkP_refl _ rfl)

noncomputable def r11_Length_s1 (l : (List TSlice)) (n1 : Int) (i : Int) : Option ((Int × Int) ⊕ Int) :=
  (bif (decide (i < ((l.length : Nat) : Int))) then (Option.bind (getI l i) (fun e => some (Sum.inl ((W64 (n1 + e.Len)), (W64 (i + 1)))))) else some (Sum.inr n1))
/-- sawmill/sawmillref11.Length -/
noncomputable def r11_Length_g (l : (List TSlice)) : Option Int :=
  (Option.bind (r11_Check_g l) (fun cv => (bif (cv != 0) then some 0 else (Option.bind ((loopO (fun q => r11_Length_s1 l q.1 q.2) (0, 0)) : Option Int) (fun n => some n)))))
theorem r11_Length_w (l : (List TSlice)) (r : Int) (h : r11_Length_g l = some r) : Holds Try.prog 44 [((encL encTSlice) l)] [] (I r) [] := by
  unfold r11_Length_g at h
  refine holds_fn Try.func44 rfl Try.ntmps44 rfl rfl rfl ?_
  refine awp_seq ?_
  refine awp_go hmix ?_
  refine go_run' ttok 1 rfl ?_
  refine go_nil nd ?_
  refine then_norm ?_
  refine awp_seq ?_
  refine awp_seq ?_
  refine awp_go hmix ?_
  refine go_run' ttok 1 rfl ?_
  obtain ⟨cv, hv1, h⟩ := of_obind h
  refine go_call fn58 (r11_Check_w l cv hv1) rfl rfl rfl rfl rfl rfl rfl ?_
  refine go_run' ttok 1 rfl ?_
  refine go_nil nd ?_
  refine then_norm ?_
  refine awp_cond (b := (cv != 0)) rfl (fun c2 => ?_) (fun c2 => ?_)
  · replace h := of_bif_t h c2
    refine awp_seq ?_
    refine awp_go hmix ?_
    refine go_run' ttok 1 rfl ?_
    refine go_nil nd ?_
    refine then_norm ?_
    refine awp_ret ?_
    refine then_ret ?_
    have e3 := of_some h
    subst e3
    refine ret_ret ?_
    refine fin0 ttok rfl rfl ?_
    exact (wkP_refl _ rfl)
  · replace h := of_bif_f h c2
    refine awp_skip ?_
    refine then_norm ?_
    refine awp_seq ?_
    refine awp_go hmix ?_
    refine go_run' ttok 1 rfl ?_
    refine go_nil nd ?_
    refine then_norm ?_
    obtain ⟨y, hx4, h⟩ := of_obind h
    refine awp_seqJ (X := Int) [] [] (fun w => [(3, (I w))]) (fun w => []) (fun w => w = y) rfl rfl ?_ ?_
    · skip
      refine awp_seq ?_
      refine awp_go hmix ?_
      refine go_run' ttok 1 rfl ?_
      refine go_nil nd ?_
      refine then_norm ?_
      refine awp_block ?_
      refine awp_loopD (X := (Int × Int)) (Y := Int) [0] [] (fun q => [(3, (I q.1)), (4, (I q.2))]) (fun q => []) (fun q => r11_Length_s1 l q.1 q.2) (0, 0) [] hx4 ⟨rfl, rfl, rfl, rfl, rfl, ⟨wkP_id _ rfl, wkP_id _ rfl, trivial⟩, trivial⟩ (fun x vR vz hz6 hk7 => ?_)
      obtain ⟨n1, i⟩ := x
      change r11_Length_s1 l n1 i = _ at hz6
      unfold r11_Length_s1 at hz6
      refine awp_seq ?_
      refine awp_seq ?_
      refine awp_go hmix ?_
      refine go_run' ttok 2 rfl ?_
      refine go_lenT encTSlice l ttok rfl rfl rfl rfl rfl rfl ?_
      refine go_run' ttok 1 rfl ?_
      refine go_nil nd ?_
      refine then_norm ?_
      refine awp_cond (b := (decide (i < ((l.length : Nat) : Int)))) rfl (fun c8 => ?_) (fun c8 => ?_)
      · replace hz6 := of_bif_t hz6 c8
        refine awp_skip ?_
        refine then_norm ?_
        refine awp_seq ?_
        refine awp_block ?_
        refine awp_go hmix ?_
        refine go_run' ttok 3 rfl ?_
        obtain ⟨e, hv9, hz6⟩ := of_obind hz6
        refine go_indexT encTSlice l i e hv9 ttok rfl rfl rfl rfl rfl rfl rfl rfl rfl ?_
        refine go_run' ttok 4 rfl ?_
        refine go_nil nd ?_
        refine block_norm ?_
        refine then_norm ?_
        refine awp_go hmix ?_
        refine go_run' ttok 3 rfl ?_
        refine go_nil nd ?_
        have e10 := of_some hz6
        subst e10
        refine then_norm ⟨rfl, ((W64 (n1 + e.Len)), (W64 (i + 1))), [], ⟨rfl, rfl, rfl, rfl, rfl, ⟨wkP_id _ rfl, wkP_id _ rfl, trivial⟩, trivial⟩, hk7⟩
      · replace hz6 := of_bif_f hz6 c8
        refine awp_exit ?_
        refine then_exit ?_
        obtain ⟨t, hn11, hq⟩ := of_mapr' hz6
        subst hq
        have hq : t = _ := hk7
        subst hq
        refine then_exit ?_
        refine block_here ?_
        have e12 := of_some hn11
        refine then_norm ⟨rfl, n1, [], ⟨rfl, rfl, rfl, rfl, rfl, ⟨wkP_id _ rfl, trivial⟩, trivial⟩, e12⟩
    · intro n hw5
      subst hw5
      refine awp_seq ?_
      refine awp_go hmix ?_
      refine go_run' ttok 2 rfl ?_
      refine go_nil nd ?_
      refine then_norm ?_
      refine awp_ret ?_
      have e13 := of_some h
      subst e13
      refine ret_ret ?_
      refine fin0 ttok rfl rfl ?_
      exact (wkP_refl _ rfl)

/-- sawmill/sawmillref20.within -/
noncomputable def r20_within_g (l : (List TSlice)) (b : Bx) : Option Bool :=
  (bif (r20_across_g b.x) then (bif (r20_across_g b.y) then (bif (decide (0 ≤ b.z.a)) then (bif (decide (b.z.a < b.z.b)) then (Option.bind (r11_Length_g l) (fun lv => some (decide (b.z.b ≤ lv)))) else some false) else some false) else some false) else some false)
theorem r20_within_w (l : (List TSlice)) (b : Bx) (r : Bool) (h : r20_within_g l b = some r) : Holds Try.prog 37 [((encL encTSlice) l), (encBx b)] [] (B r) [] := by
  unfold r20_within_g at h
  refine holds_fn Try.func37 rfl Try.ntmps37 rfl rfl rfl ?_
  refine awp_seq ?_
  refine awp_go hmix ?_
  refine go_run' ttok 2 rfl ?_
  refine go_nil nd ?_
  refine then_norm ?_
  refine awp_seq ?_
  refine awp_go hmix ?_
  refine go_run' ttok 2 rfl ?_
  refine go_call fn51 (r20_across_w b.x _ rfl) rfl rfl rfl rfl rfl rfl rfl ?_
  refine go_run' ttok 1 rfl ?_
  refine go_gcase rfl rfl rfl (fun g1 => ?_) (fun g1 => ?_)
  · rw [g1]
    replace h := of_bif_t h g1
    refine go_run' ttok 2 rfl ?_
    refine go_call fn51 (r20_across_w b.y _ rfl) rfl rfl rfl rfl rfl rfl rfl ?_
    refine go_run' ttok 2 rfl ?_
    refine go_gcase rfl rfl rfl (fun g2 => ?_) (fun g2 => ?_)
    · rw [g2]
      replace h := of_bif_t h g2
      refine go_run' ttok 6 rfl ?_
      refine go_gcase rfl rfl rfl (fun g3 => ?_) (fun g3 => ?_)
      · rw [g3]
        replace h := of_bif_t h g3
        refine go_run' ttok 9 rfl ?_
        refine go_gcase rfl rfl rfl (fun g4 => ?_) (fun g4 => ?_)
        · rw [g4]
          replace h := of_bif_t h g4
          refine go_run' ttok 4 rfl ?_
          obtain ⟨lv, hv5, h⟩ := of_obind h
          refine go_call fn44 (r11_Length_w l lv hv5) rfl rfl rfl rfl rfl rfl rfl ?_
          refine go_run' ttok 3 rfl ?_
          refine go_nil (fun _ => by kernel_rfl) ?_
          refine then_norm ?_
          refine awp_ret ?_
          have e6 := of_some h
          subst e6
          refine ret_ret ?_
          refine fin0 ttok rfl rfl ?_
          exact (wkP_refl _ rfl)
        · rw [g4]
          replace h := of_bif_f h g4
          refine go_run' ttok 8 rfl ?_
          refine go_nil (fun _ => by kernel_rfl) ?_
          refine then_norm ?_
          refine awp_ret ?_
          have e7 := of_some h
          subst e7
          refine ret_ret ?_
          refine fin0 ttok rfl rfl ?_
          exact (wkP_refl _ rfl)
      · rw [g3]
        replace h := of_bif_f h g3
        refine go_run' ttok 17 rfl ?_
        refine go_nil (fun _ => by kernel_rfl) ?_
        refine then_norm ?_
        refine awp_ret ?_
        have e8 := of_some h
        subst e8
        refine ret_ret ?_
        refine fin0 ttok rfl rfl ?_
        exact (wkP_refl _ rfl)
    · rw [g2]
      replace h := of_bif_f h g2
      refine go_run' ttok 23 rfl ?_
      refine go_nil (fun _ => by kernel_rfl) ?_
      refine then_norm ?_
      refine awp_ret ?_
      have e9 := of_some h
      subst e9
      refine ret_ret ?_
      refine fin0 ttok rfl rfl ?_
      exact (wkP_refl _ rfl)
  · rw [g1]
    replace h := of_bif_f h g1
    refine go_run' ttok 28 rfl ?_
    refine go_nil (fun _ => by kernel_rfl) ?_
    refine then_norm ?_
    refine awp_ret ?_
    have e10 := of_some h
    subst e10
    refine ret_ret ?_
    refine fin0 ttok rfl rfl ?_
    exact (wkP_refl _ rfl)

/-- sawmill/sawmillref11.part -/
noncomputable def r11_part_g (vz : Sp) (vat : Int) (length : Int) : Int :=
  (bif (decide ((min vz.b (W64 (vat + length))) ≤ (max vz.a vat))) then 0 else (W64 ((min vz.b (W64 (vat + length))) - (max vz.a vat))))
theorem r11_part_w (vz : Sp) (vat : Int) (length : Int) (r : Int) (h : r11_part_g vz vat length = r) : Holds Try.prog 68 [(encSp vz), (I vat), (I length)] [] (I r) [] := by
  unfold r11_part_g at h
  refine holds_fn Try.func68 rfl Try.ntmps68 rfl rfl rfl ?_
  refine awp_seq ?_
  refine awp_go hmix ?_
  refine go_run' ttok 2 rfl ?_
  refine go_nil nd ?_
  refine then_norm ?_
  refine awp_seq ?_
  refine awp_go hmix ?_
  refine go_run' ttok 12 rfl ?_
  refine go_nil (fun _ => by kernel_rfl) ?_
  refine then_norm ?_
  refine awp_seq ?_
  refine awp_seq ?_
  refine awp_go hmix ?_
  refine go_run' ttok 3 rfl ?_
  refine go_nil nd ?_
  refine then_norm ?_
  refine awp_cond (b := (decide ((min vz.b (W64 (vat + length))) ≤ (max vz.a vat)))) rfl (fun c1 => ?_) (fun c1 => ?_)
  · replace h := of_bif_t h c1
    refine awp_seq ?_
    refine awp_go hmix ?_
    refine go_run' ttok 1 rfl ?_
    refine go_nil nd ?_
    refine then_norm ?_
    refine awp_ret ?_
    refine then_ret ?_
    have e2 := h
    subst e2
    refine ret_ret ?_
    refine fin0 ttok rfl rfl ?_
    exact (wkP_refl _ rfl)
  · replace h := of_bif_f h c1
    refine awp_skip ?_
    refine then_norm ?_
    refine awp_seq ?_
    refine awp_go hmix ?_
    refine go_run' ttok 4 rfl ?_
    refine go_nil nd ?_
    refine then_norm ?_
    refine awp_ret ?_
    have e3 := h
    subst e3
    refine ret_ret ?_
    refine fin0 ttok rfl rfl ?_
    exact (wkP_refl _ rfl)

noncomputable def r11_Cut_s1 (l : (List TSlice)) (vz : Sp) (out1 : (List TSlice)) (vat : Int) (i : Int) : Option (((List TSlice) × Int × Int) ⊕ (List TSlice)) :=
  (bif (decide (i < ((l.length : Nat) : Int))) then (Option.bind (getI l i) (fun e => (bif (decide (0 < (r11_part_g (⟨(max vz.a 0), (min vz.b 20000)⟩ : Sp) vat e.Len))) then (Option.bind (getI l i) (fun e1 => (Option.bind (appO 40 out1 ([(⟨(r11_part_g (⟨(max vz.a 0), (min vz.b 20000)⟩ : Sp) vat e.Len), e1.Sec⟩ : TSlice)])) (fun l1 => (Option.bind (getI l i) (fun e2 => some (Sum.inl (l1, (W64 (vat + e2.Len)), (W64 (i + 1)))))))))) else (Option.bind (getI l i) (fun e3 => some (Sum.inl (out1, (W64 (vat + e3.Len)), (W64 (i + 1))))))))) else some (Sum.inr out1))
/-- sawmill/sawmillref11.Cut -/
noncomputable def r11_Cut_g (l : (List TSlice)) (vz : Sp) : Option (List TSlice) :=
  (Option.bind (r11_Check_g l) (fun cv => (bif (cv != 0) then some ([]) else (Option.bind ((loopO (fun q => r11_Cut_s1 l vz q.1 q.2.1 q.2.2) ([], 0, 0)) : Option (List TSlice)) (fun out => some out)))))
theorem r11_Cut_w (l : (List TSlice)) (vz : Sp) (r : (List TSlice)) (h : r11_Cut_g l vz = some r) : Holds Try.prog 52 [((encL encTSlice) l), (encSp vz)] [] ((encL encTSlice) r) [] := by
  unfold r11_Cut_g at h
  refine holds_fn Try.func52 rfl Try.ntmps52 rfl rfl rfl ?_
  refine awp_seq ?_
  refine awp_go hmix ?_
  refine go_run' ttok 2 rfl ?_
  refine go_nil nd ?_
  refine then_norm ?_
  refine awp_seq ?_
  refine awp_seq ?_
  refine awp_go hmix ?_
  refine go_run' ttok 1 rfl ?_
  obtain ⟨cv, hv1, h⟩ := of_obind h
  refine go_call fn58 (r11_Check_w l cv hv1) rfl rfl rfl rfl rfl rfl rfl ?_
  refine go_run' ttok 1 rfl ?_
  refine go_nil nd ?_
  refine then_norm ?_
  refine awp_cond (b := (cv != 0)) rfl (fun c2 => ?_) (fun c2 => ?_)
  · replace h := of_bif_t h c2
    refine awp_seq ?_
    refine awp_go hmix ?_
    refine go_run' ttok 1 rfl ?_
    refine go_nil nd ?_
    refine then_norm ?_
    refine awp_ret ?_
    refine then_ret ?_
    have e3 := of_some h
    subst e3
    refine ret_ret ?_
    refine fin0 ttok rfl rfl ?_
    exact wkP_nilm
  · replace h := of_bif_f h c2
    refine awp_skip ?_
    refine then_norm ?_
    refine awp_seq ?_
    refine awp_go hmix ?_
    refine go_run' ttok 1 rfl ?_
    refine go_nil nd ?_
    refine then_norm ?_
    refine awp_seq ?_
    refine awp_go hmix ?_
    refine go_run' ttok 8 rfl ?_
    refine go_nil nd ?_
    refine then_norm ?_
    refine awp_seq ?_
    refine awp_go hmix ?_
    refine go_run' ttok 1 rfl ?_
    refine go_nil nd ?_
    refine then_norm ?_
    obtain ⟨y, hx4, h⟩ := of_obind h
    refine awp_seqJ (X := (List TSlice)) [] [] (fun w => [(5, (.arr 5 0 w.length))]) (fun w => [(5, some ⟨67, 3, w.map encTSlice⟩)]) (fun w => w = y) rfl rfl ?_ ?_
    · skip
      refine awp_seq ?_
      refine awp_go hmix ?_
      refine go_run' ttok 1 rfl ?_
      refine go_nil nd ?_
      refine then_norm ?_
      refine awp_block ?_
      refine awp_loopD (X := ((List TSlice) × Int × Int)) (Y := (List TSlice)) [0, 3] [3] (fun q => [(5, (.arr 5 0 q.1.length)), (6, (I q.2.1)), (7, (I q.2.2))]) (fun q => [(5, some ⟨67, 3, q.1.map encTSlice⟩)]) (fun q => r11_Cut_s1 l vz q.1 q.2.1 q.2.2) ([], 0, 0) [(5, none), (3, some 3)] hx4 ⟨rfl, rfl, rfl, rfl, rfl, ⟨⟨rfl, rfl, (by first | rfl | simp [setI])⟩, wkP_id _ rfl, wkP_id _ rfl, trivial⟩, ⟨rfl, trivial⟩⟩ (fun x vR vz1 hz6 hk7 => ?_)
      obtain ⟨out1, vat, i⟩ := x
      change r11_Cut_s1 l vz out1 vat i = _ at hz6
      unfold r11_Cut_s1 at hz6
      refine awp_seq ?_
      refine awp_seq ?_
      refine awp_go hmix ?_
      refine go_run' ttok 2 rfl ?_
      refine go_lenT encTSlice l ttok rfl rfl rfl rfl rfl rfl ?_
      refine go_run' ttok 1 rfl ?_
      refine go_nil nd ?_
      refine then_norm ?_
      refine awp_cond (b := (decide (i < ((l.length : Nat) : Int)))) rfl (fun c8 => ?_) (fun c8 => ?_)
      · replace hz6 := of_bif_t hz6 c8
        refine awp_skip ?_
        refine then_norm ?_
        refine awp_seq ?_
        refine awp_block ?_
        refine awp_seq ?_
        refine awp_go hmix ?_
        refine go_run' ttok 4 rfl ?_
        obtain ⟨e, hv9, hz6⟩ := of_obind hz6
        refine go_indexT encTSlice l i e hv9 ttok rfl rfl rfl rfl rfl rfl rfl rfl rfl ?_
        refine go_run' ttok 2 rfl ?_
        refine go_call fn68 (r11_part_w (⟨(max vz.a 0), (min vz.b 20000)⟩ : Sp) vat e.Len _ rfl) rfl rfl rfl rfl rfl rfl rfl ?_
        refine go_run' ttok 1 rfl ?_
        refine go_nil (fun _ => by kernel_rfl) ?_
        refine then_norm ?_
        refine awp_seq ?_
        refine awp_seq ?_
        refine awp_go hmix ?_
        refine go_run' ttok 2 rfl ?_
        refine go_nil nd ?_
        refine then_norm ?_
        refine awp_cond (b := (decide (0 < (r11_part_g (⟨(max vz.a 0), (min vz.b 20000)⟩ : Sp) vat e.Len)))) rfl (fun c10 => ?_) (fun c10 => ?_)
        · replace hz6 := of_bif_t hz6 c10
          refine awp_go hmix ?_
          refine go_run' ttok 4 rfl ?_
          obtain ⟨e1, hv11, hz6⟩ := of_obind hz6
          refine go_indexT encTSlice l i e1 hv11 ttok rfl rfl rfl rfl rfl rfl rfl rfl rfl ?_
          refine go_run' ttok 4 rfl ?_
          obtain ⟨l1, hv12, hz6⟩ := of_obind hz6
          refine go_appT encTSlice out1 ([(⟨(r11_part_g (⟨(max vz.a 0), (min vz.b 20000)⟩ : Sp) vat e.Len), e1.Sec⟩ : TSlice)]) l1 hv12 (fun _ => rfl) (by first | rfl | simp [setI]) (by first | rfl | simp [setI]) ttok rfl rfl rfl rfl rfl rfl rfl rfl rfl rfl rfl rfl rfl rfl rfl rfl rfl ?_
          refine go_run' ttok 1 rfl ?_
          refine go_nil nd ?_
          refine then_norm ?_
          refine awp_go hmix ?_
          refine go_run' ttok 3 rfl ?_
          obtain ⟨e2, hv13, hz6⟩ := of_obind hz6
          refine go_indexT encTSlice l i e2 hv13 ttok rfl rfl rfl rfl rfl rfl rfl rfl rfl ?_
          refine go_run' ttok 4 rfl ?_
          refine go_nil nd ?_
          refine block_norm ?_
          refine then_norm ?_
          refine awp_go hmix ?_
          refine go_run' ttok 3 rfl ?_
          refine go_nil nd ?_
          have e14 := of_some hz6
          subst e14
          refine then_norm ⟨rfl, (l1, (W64 (vat + e2.Len)), (W64 (i + 1))), [(5, some 44), (3, some 3)], ⟨rfl, rfl, rfl, rfl, rfl, ⟨⟨rfl, rfl, (by first | rfl | simp [setI])⟩, wkP_id _ rfl, wkP_id _ rfl, trivial⟩, ⟨⟨_, rfl, rfl, rfl, wkX_map (enc := encTSlice) l1 (fun _ => rfl)⟩, trivial⟩⟩, hk7⟩
        · replace hz6 := of_bif_f hz6 c10
          refine awp_skip ?_
          refine then_norm ?_
          refine awp_go hmix ?_
          refine go_run' ttok 3 rfl ?_
          obtain ⟨e3, hv15, hz6⟩ := of_obind hz6
          refine go_indexT encTSlice l i e3 hv15 ttok rfl rfl rfl rfl rfl rfl rfl rfl rfl ?_
          refine go_run' ttok 4 rfl ?_
          refine go_nil nd ?_
          refine block_norm ?_
          refine then_norm ?_
          refine awp_go hmix ?_
          refine go_run' ttok 3 rfl ?_
          refine go_nil nd ?_
          have e16 := of_some hz6
          subst e16
          refine then_norm ⟨rfl, (out1, (W64 (vat + e3.Len)), (W64 (i + 1))), [(5, some 5), (3, some 3)], ⟨rfl, rfl, rfl, rfl, rfl, ⟨⟨rfl, rfl, (by first | rfl | simp [setI])⟩, wkP_id _ rfl, wkP_id _ rfl, trivial⟩, ⟨⟨_, rfl, rfl, rfl, wkX_map (enc := encTSlice) out1 (fun _ => rfl)⟩, trivial⟩⟩, hk7⟩
      · replace hz6 := of_bif_f hz6 c8
        refine awp_exit ?_
        refine then_exit ?_
        obtain ⟨t, hn17, hq⟩ := of_mapr' hz6
        subst hq
        have hq : t = _ := hk7
        subst hq
        refine then_exit ?_
        refine block_here ?_
        have e18 := of_some hn17
        refine then_norm ⟨rfl, out1, [(5, some 5)], ⟨rfl, rfl, rfl, rfl, rfl, ⟨⟨rfl, rfl, (by first | rfl | simp [setI])⟩, trivial⟩, ⟨⟨_, rfl, rfl, rfl, wkX_map (enc := encTSlice) out1 (fun _ => rfl)⟩, trivial⟩⟩, e18⟩
    · intro out hw5
      subst hw5
      refine awp_seq ?_
      refine awp_go hmix ?_
      refine go_run' ttok 2 rfl ?_
      refine go_nil nd ?_
      refine then_norm ?_
      refine awp_freezeM [] [] [(5, some ⟨67, 3, out.map encTSlice⟩)] [] [(4, (encL encTSlice out))] [] rfl rfl rfl rfl rfl ⟨rfl, by decide, trivial⟩ ⟨(wkP_lend rfl (by first | rfl | simp [setI]) (fun _ => rfl)), trivial⟩ trivial ?_
      refine awp_ret ?_
      have e19 := of_some h
      subst e19
      refine ret_ret ?_
      refine fin0 ttok rfl rfl ?_
      exact (wkP_refl _ rfl)

/-- sawmill/sawmillref10.Valid -/
noncomputable def r10_Valid_g (s : TSection) : Option TSection :=
  (Option.bind (r10_Check_g s) (fun cv => (bif (cv != 0) then some (⟨0, []⟩ : TSection) else some s)))
theorem r10_Valid_w (s : TSection) (r : TSection) (h : r10_Valid_g s = some r) : Holds Try.prog 69 [(encTSection s)] [] (encTSection r) [] := by
  unfold r10_Valid_g at h
  refine holds_fn Try.func69 rfl Try.ntmps69 rfl rfl rfl ?_
  refine awp_seq ?_
  refine awp_go hmix ?_
  refine go_run' ttok 2 rfl ?_
  refine go_nil nd ?_
  refine then_norm ?_
  refine awp_seq ?_
  refine awp_seq ?_
  refine awp_go hmix ?_
  refine go_run' ttok 1 rfl ?_
  obtain ⟨cv, hv1, h⟩ := of_obind h
  refine go_call fn79 (r10_Check_w s cv hv1) rfl rfl rfl rfl rfl rfl rfl ?_
  refine go_run' ttok 1 rfl ?_
  refine go_nil nd ?_
  refine then_norm ?_
  refine awp_cond (b := (cv != 0)) rfl (fun c2 => ?_) (fun c2 => ?_)
  · replace h := of_bif_t h c2
    refine awp_seq ?_
    refine awp_go hmix ?_
    refine go_run' ttok 2 rfl ?_
    refine go_nil nd ?_
    refine then_norm ?_
    refine awp_ret ?_
    refine then_ret ?_
    have e3 := of_some h
    subst e3
    refine ret_ret ?_
    refine fin0 ttok rfl rfl ?_
    exact ⟨(wkP_refl _ rfl), wkP_nilm, trivial⟩
  · replace h := of_bif_f h c2
    refine awp_skip ?_
    refine then_norm ?_
    refine awp_seq ?_
    refine awp_go hmix ?_
    refine go_run' ttok 2 rfl ?_
    refine go_nil nd ?_
    refine then_norm ?_
    refine awp_ret ?_
    have e4 := of_some h
    subst e4
    refine ret_ret ?_
    refine fin0 ttok rfl rfl ?_
    exact (wkP_refl _ rfl)

/-- sawmill/sawmillref10.common -/
noncomputable def r10_common_g (a : Sp) (b : Sp) : Int :=
  (bif (r10_empty_g b) then 0 else (bif (decide ((min a.b b.b) ≤ (max a.a b.a))) then 0 else (W64 ((min a.b b.b) - (max a.a b.a)))))
theorem r10_common_w (a : Sp) (b : Sp) (r : Int) (h : r10_common_g a b = r) : Holds Try.prog 70 [(encSp a), (encSp b)] [] (I r) [] := by
  unfold r10_common_g at h
  refine holds_fn Try.func70 rfl Try.ntmps70 rfl rfl rfl ?_
  refine awp_seq ?_
  refine awp_go hmix ?_
  refine go_run' ttok 3 rfl ?_
  refine go_nil nd ?_
  refine then_norm ?_
  refine awp_seq ?_
  refine awp_go hmix ?_
  refine go_run' ttok 12 rfl ?_
  refine go_nil (fun _ => by kernel_rfl) ?_
  refine then_norm ?_
  refine awp_seq ?_
  refine awp_seq ?_
  refine awp_go hmix ?_
  refine go_run' ttok 1 rfl ?_
  refine go_call fn84 (r10_empty_w b _ rfl) rfl rfl rfl rfl rfl rfl rfl ?_
  refine go_run' ttok 1 rfl ?_
  refine go_gcase rfl rfl rfl (fun g1 => ?_) (fun g1 => ?_)
  · rw [g1]
    replace h := of_bif_t h g1
    refine go_run' ttok 4 rfl ?_
    refine go_nil nd ?_
    refine then_norm ?_
    refine awp_cond rfl (fun tt0 => ?_) (fun h => by cases h)
    clear tt0
    refine awp_seq ?_
    refine awp_go hmix ?_
    refine go_run' ttok 1 rfl ?_
    refine go_nil nd ?_
    refine then_norm ?_
    refine awp_ret ?_
    refine then_ret ?_
    have e2 := h
    subst e2
    refine ret_ret ?_
    refine fin0 ttok rfl rfl ?_
    exact (wkP_refl _ rfl)
  · rw [g1]
    replace h := of_bif_f h g1
    refine go_run' ttok 4 rfl ?_
    refine go_nil nd ?_
    refine then_norm ?_
    refine awp_cond (b := (decide ((min a.b b.b) ≤ (max a.a b.a)))) rfl (fun c3 => ?_) (fun c3 => ?_)
    · replace h := of_bif_t h c3
      refine awp_seq ?_
      refine awp_go hmix ?_
      refine go_run' ttok 1 rfl ?_
      refine go_nil nd ?_
      refine then_norm ?_
      refine awp_ret ?_
      refine then_ret ?_
      have e4 := h
      subst e4
      refine ret_ret ?_
      refine fin0 ttok rfl rfl ?_
      exact (wkP_refl _ rfl)
    · replace h := of_bif_f h c3
      refine awp_skip ?_
      refine then_norm ?_
      refine awp_seq ?_
      refine awp_go hmix ?_
      refine go_run' ttok 4 rfl ?_
      refine go_nil nd ?_
      refine then_norm ?_
      refine awp_ret ?_
      have e5 := h
      subst e5
      refine ret_ret ?_
      refine fin0 ttok rfl rfl ?_
      exact (wkP_refl _ rfl)

/-- sawmill/sawmillref10.Heights -/
noncomputable def r10_Heights_g (vr : Int) : Sp :=
  (⟨(W64 (10 * vr)), (W64 (10 * (W64 (vr + 1))))⟩ : Sp)
theorem r10_Heights_w (vr : Int) (r : Sp) (h : r10_Heights_g vr = r) : Holds Try.prog 71 [(I vr)] [] (encSp r) [] := by
  unfold r10_Heights_g at h
  refine holds_fn Try.func71 rfl Try.ntmps71 rfl rfl rfl ?_
  refine awp_seq ?_
  refine awp_go hmix ?_
  refine go_run' ttok 1 rfl ?_
  refine go_nil nd ?_
  refine then_norm ?_
  refine awp_seq ?_
  refine awp_go hmix ?_
  refine go_run' ttok 7 rfl ?_
  refine go_nil nd ?_
  refine then_norm ?_
  refine awp_ret ?_
  have e1 := h
  subst e1
  refine ret_ret ?_
  refine fin0 ttok rfl rfl ?_
  exact (wkP_refl _ rfl)

noncomputable def r10_Within_s1 (vr : TRect) (vv : TSection) (n1 : Int) (i : Int) : Option ((Int × Int) ⊕ Int) :=
  (bif (decide (i < ((vv.Rows.length : Nat) : Int))) then (Option.bind (getI vv.Rows i) (fun e => (letB (r10_Heights_g (W64 (vv.Low + i))) (fun hv => some (Sum.inl ((W64 (n1 + (W64 ((r10_common_g e vr.X) * (r10_common_g hv vr.Y))))), (W64 (i + 1)))))))) else some (Sum.inr n1))
/-- sawmill/sawmillref10.Within -/
noncomputable def r10_Within_g (s : TSection) (vr : TRect) : Option Int :=
  (Option.bind (r10_Valid_g s) (fun vv => (Option.bind ((loopO (fun q => r10_Within_s1 vr vv q.1 q.2) (0, 0)) : Option Int) (fun n => some n))))
theorem r10_Within_w (s : TSection) (vr : TRect) (r : Int) (h : r10_Within_g s vr = some r) : Holds Try.prog 53 [(encTSection s), (encTRect vr)] [] (I r) [] := by
  unfold r10_Within_g at h
  refine holds_fn Try.func53 rfl Try.ntmps53 rfl rfl rfl ?_
  refine awp_seq ?_
  refine awp_go hmix ?_
  refine go_run' ttok 3 rfl ?_
  refine go_nil nd ?_
  refine then_norm ?_
  refine awp_seq ?_
  refine awp_go hmix ?_
  refine go_run' ttok 1 rfl ?_
  refine go_nil nd ?_
  refine then_norm ?_
  refine awp_seq ?_
  refine awp_go hmix ?_
  refine go_run' ttok 1 rfl ?_
  obtain ⟨vv, hv1, h⟩ := of_obind h
  refine go_call fn69 (r10_Valid_w s vv hv1) rfl rfl rfl rfl rfl rfl rfl ?_
  refine go_run' ttok 1 rfl ?_
  refine go_nil nd ?_
  refine then_norm ?_
  obtain ⟨y, hx2, h⟩ := of_obind h
  refine awp_seqJ (X := Int) [] [] (fun w => [(5, (I w))]) (fun w => []) (fun w => w = y) rfl rfl ?_ ?_
  · skip
    refine awp_seq ?_
    refine awp_go hmix ?_
    refine go_run' ttok 1 rfl ?_
    refine go_nil nd ?_
    refine then_norm ?_
    refine awp_block ?_
    refine awp_loopD (X := (Int × Int)) (Y := Int) [2, 3] [2, 3] (fun q => [(5, (I q.1)), (6, (I q.2))]) (fun q => []) (fun q => r10_Within_s1 vr vv q.1 q.2) (0, 0) [(2, some 2), (3, some 3)] hx2 ⟨rfl, rfl, rfl, rfl, rfl, ⟨wkP_id _ rfl, wkP_id _ rfl, trivial⟩, trivial⟩ (fun x vR vz hz4 hk5 => ?_)
    obtain ⟨n1, i⟩ := x
    change r10_Within_s1 vr vv n1 i = _ at hz4
    unfold r10_Within_s1 at hz4
    refine awp_seq ?_
    refine awp_seq ?_
    refine awp_go hmix ?_
    refine go_run' ttok 3 rfl ?_
    refine go_lenT encSp vv.Rows ttok rfl rfl rfl rfl rfl rfl ?_
    refine go_run' ttok 1 rfl ?_
    refine go_nil nd ?_
    refine then_norm ?_
    refine awp_cond (b := (decide (i < ((vv.Rows.length : Nat) : Int)))) rfl (fun c6 => ?_) (fun c6 => ?_)
    · replace hz4 := of_bif_t hz4 c6
      refine awp_skip ?_
      refine then_norm ?_
      refine awp_seq ?_
      refine awp_block ?_
      refine awp_go hmix ?_
      refine go_run' ttok 4 rfl ?_
      obtain ⟨e, hv7, hz4⟩ := of_obind hz4
      refine go_indexT encSp vv.Rows i e hv7 ttok rfl rfl rfl rfl rfl rfl rfl rfl rfl ?_
      refine go_run' ttok 3 rfl ?_
      refine go_call fn70 (r10_common_w e vr.X _ rfl) rfl rfl rfl rfl rfl rfl rfl ?_
      refine go_run' ttok 4 rfl ?_
      obtain ⟨hv, hv8, hz4⟩ := of_let hz4
      refine go_call fn71 (r10_Heights_w (W64 (vv.Low + i)) hv hv8) rfl rfl rfl rfl rfl rfl rfl ?_
      refine go_run' ttok 2 rfl ?_
      refine go_call fn70 (r10_common_w hv vr.Y _ rfl) rfl rfl rfl rfl rfl rfl rfl ?_
      refine go_run' ttok 3 rfl ?_
      refine go_nil (fun _ => by kernel_rfl) ?_
      refine block_norm ?_
      refine then_norm ?_
      refine awp_go hmix ?_
      refine go_run' ttok 3 rfl ?_
      refine go_nil nd ?_
      have e9 := of_some hz4
      subst e9
      refine then_norm ⟨rfl, ((W64 (n1 + (W64 ((r10_common_g e vr.X) * (r10_common_g hv vr.Y))))), (W64 (i + 1))), [(2, some 2), (3, some 3)], ⟨rfl, rfl, rfl, rfl, rfl, ⟨wkP_id _ rfl, wkP_id _ rfl, trivial⟩, trivial⟩, hk5⟩
    · replace hz4 := of_bif_f hz4 c6
      refine awp_exit ?_
      refine then_exit ?_
      obtain ⟨t, hn10, hq⟩ := of_mapr' hz4
      subst hq
      have hq : t = _ := hk5
      subst hq
      refine then_exit ?_
      refine block_here ?_
      have e11 := of_some hn10
      refine then_norm ⟨rfl, n1, [], ⟨rfl, rfl, rfl, rfl, rfl, ⟨wkP_id _ rfl, trivial⟩, trivial⟩, e11⟩
  · intro n hw3
    subst hw3
    refine awp_seq ?_
    refine awp_go hmix ?_
    refine go_run' ttok 2 rfl ?_
    refine go_nil nd ?_
    refine then_norm ?_
    refine awp_ret ?_
    have e12 := of_some h
    subst e12
    refine ret_ret ?_
    refine fin0 ttok rfl rfl ?_
    exact (wkP_refl _ rfl)

noncomputable def r20_wane_s1 (b : Bx) (cv : (List TSlice)) (most1 : Int) (i : Int) : Option ((Int × Int) ⊕ Int) :=
  (bif (decide (i < ((cv.length : Nat) : Int))) then (Option.bind (getI cv i) (fun e => (Option.bind (r10_Within_g e.Sec (⟨b.x, b.y⟩ : TRect)) (fun wv => (bif ((W64 ((W64 (b.x.b - b.x.a)) * (W64 (b.y.b - b.y.a)))) != 0) then some (Sum.inl ((max most1 (W64 (Int.tdiv (W64 ((W64 ((W64 (1000 * (W64 ((W64 ((W64 (b.x.b - b.x.a)) * (W64 (b.y.b - b.y.a)))) - wv)))) + (W64 ((W64 (b.x.b - b.x.a)) * (W64 (b.y.b - b.y.a)))))) - 1)) (W64 ((W64 (b.x.b - b.x.a)) * (W64 (b.y.b - b.y.a))))))), (W64 (i + 1)))) else none))))) else some (Sum.inr most1))
/-- sawmill/sawmillref20.wane -/
noncomputable def r20_wane_g (l : (List TSlice)) (b : Bx) : Option Int :=
  (Option.bind (r11_Cut_g l b.z) (fun cv => (Option.bind ((loopO (fun q => r20_wane_s1 b cv q.1 q.2) (0, 0)) : Option Int) (fun most => some most))))
theorem r20_wane_w (l : (List TSlice)) (b : Bx) (r : Int) (h : r20_wane_g l b = some r) : Holds Try.prog 38 [((encL encTSlice) l), (encBx b)] [] (I r) [] := by
  unfold r20_wane_g at h
  refine holds_fn Try.func38 rfl Try.ntmps38 rfl rfl rfl ?_
  refine awp_seq ?_
  refine awp_go hmix ?_
  refine go_run' ttok 2 rfl ?_
  refine go_nil nd ?_
  refine then_norm ?_
  refine awp_seq ?_
  refine awp_go hmix ?_
  refine go_run' ttok 3 rfl ?_
  obtain ⟨cv, hv1, h⟩ := of_obind h
  refine go_call fn52 (r11_Cut_w l b.z cv hv1) rfl rfl rfl rfl rfl rfl rfl ?_
  refine go_run' ttok 1 rfl ?_
  refine go_nil nd ?_
  refine then_norm ?_
  refine awp_seq ?_
  refine awp_go hmix ?_
  refine go_run' ttok 16 rfl ?_
  refine go_nil nd ?_
  refine then_norm ?_
  refine awp_seq ?_
  refine awp_go hmix ?_
  refine go_run' ttok 1 rfl ?_
  refine go_nil nd ?_
  refine then_norm ?_
  obtain ⟨y, hx2, h⟩ := of_obind h
  refine awp_seqJ (X := Int) [] [] (fun w => [(7, (I w))]) (fun w => []) (fun w => w = y) rfl rfl ?_ ?_
  · skip
    refine awp_seq ?_
    refine awp_go hmix ?_
    refine go_run' ttok 1 rfl ?_
    refine go_nil nd ?_
    refine then_norm ?_
    refine awp_block ?_
    refine awp_loopD (X := (Int × Int)) (Y := Int) [3, 5, 6] [3] (fun q => [(7, (I q.1)), (8, (I q.2))]) (fun q => []) (fun q => r20_wane_s1 b cv q.1 q.2) (0, 0) [(3, some 3)] hx2 ⟨rfl, rfl, rfl, rfl, rfl, ⟨wkP_id _ rfl, wkP_id _ rfl, trivial⟩, trivial⟩ (fun x vR vz hz4 hk5 => ?_)
    obtain ⟨most1, i⟩ := x
    change r20_wane_s1 b cv most1 i = _ at hz4
    unfold r20_wane_s1 at hz4
    refine awp_seq ?_
    refine awp_seq ?_
    refine awp_go hmix ?_
    refine go_run' ttok 2 rfl ?_
    refine go_lenT encTSlice cv ttok rfl rfl rfl rfl rfl rfl ?_
    refine go_run' ttok 1 rfl ?_
    refine go_nil nd ?_
    refine then_norm ?_
    refine awp_cond (b := (decide (i < ((cv.length : Nat) : Int)))) rfl (fun c6 => ?_) (fun c6 => ?_)
    · replace hz4 := of_bif_t hz4 c6
      refine awp_skip ?_
      refine then_norm ?_
      refine awp_seq ?_
      refine awp_block ?_
      refine awp_seq ?_
      refine awp_go hmix ?_
      refine go_run' ttok 2 rfl ?_
      obtain ⟨e, hv7, hz4⟩ := of_obind hz4
      refine go_indexT encTSlice cv i e hv7 ttok rfl rfl rfl rfl rfl rfl rfl rfl rfl ?_
      refine go_run' ttok 7 rfl ?_
      obtain ⟨wv, hv8, hz4⟩ := of_obind hz4
      refine go_call fn53 (r10_Within_w e.Sec (⟨b.x, b.y⟩ : TRect) wv hv8) rfl rfl rfl rfl rfl rfl rfl ?_
      refine go_run' ttok 1 rfl ?_
      refine go_nil (fun _ => by kernel_rfl) ?_
      refine then_norm ?_
      refine awp_go hmix ?_
      refine go_run' ttok 9 rfl ?_
      obtain ⟨hd9, hz4⟩ := of_grd hz4
      refine go_quoT (W64 ((W64 ((W64 (1000 * (W64 ((W64 ((W64 (b.x.b - b.x.a)) * (W64 (b.y.b - b.y.a)))) - wv)))) + (W64 ((W64 (b.x.b - b.x.a)) * (W64 (b.y.b - b.y.a)))))) - 1)) (W64 ((W64 (b.x.b - b.x.a)) * (W64 (b.y.b - b.y.a)))) hd9 rfl rfl rfl rfl rfl ?_
      refine go_run' ttok 2 rfl ?_
      refine go_nil nd ?_
      refine block_norm ?_
      refine then_norm ?_
      refine awp_go hmix ?_
      refine go_run' ttok 3 rfl ?_
      refine go_nil nd ?_
      have e10 := of_some hz4
      subst e10
      refine then_norm ⟨rfl, ((max most1 (W64 (Int.tdiv (W64 ((W64 ((W64 (1000 * (W64 ((W64 ((W64 (b.x.b - b.x.a)) * (W64 (b.y.b - b.y.a)))) - wv)))) + (W64 ((W64 (b.x.b - b.x.a)) * (W64 (b.y.b - b.y.a)))))) - 1)) (W64 ((W64 (b.x.b - b.x.a)) * (W64 (b.y.b - b.y.a))))))), (W64 (i + 1))), [(3, some 3)], ⟨rfl, rfl, rfl, rfl, rfl, ⟨wkP_id _ rfl, wkP_id _ rfl, trivial⟩, trivial⟩, hk5⟩
    · replace hz4 := of_bif_f hz4 c6
      refine awp_exit ?_
      refine then_exit ?_
      obtain ⟨t, hn11, hq⟩ := of_mapr' hz4
      subst hq
      have hq : t = _ := hk5
      subst hq
      refine then_exit ?_
      refine block_here ?_
      have e12 := of_some hn11
      refine then_norm ⟨rfl, most1, [], ⟨rfl, rfl, rfl, rfl, rfl, ⟨wkP_id _ rfl, trivial⟩, trivial⟩, e12⟩
  · intro most hw3
    subst hw3
    refine awp_seq ?_
    refine awp_go hmix ?_
    refine go_run' ttok 2 rfl ?_
    refine go_nil nd ?_
    refine then_norm ?_
    refine awp_ret ?_
    have e13 := of_some h
    subst e13
    refine ret_ret ?_
    refine fin0 ttok rfl rfl ?_
    exact (wkP_refl _ rfl)

/-- sawmill/sawmillref20.Wane -/
noncomputable def r20_Wane_g (l : (List TSlice)) (b : Bx) : Option Int :=
  (Option.bind (r20_within_g l b) (fun wv => (bif (!wv) then some 1000 else (Option.bind (r20_wane_g l b) (fun wv1 => some wv1)))))
theorem r20_Wane_w (l : (List TSlice)) (b : Bx) (r : Int) (h : r20_Wane_g l b = some r) : Holds Try.prog 16 [((encL encTSlice) l), (encBx b)] [] (I r) [] := by
  unfold r20_Wane_g at h
  refine holds_fn Try.func16 rfl Try.ntmps16 rfl rfl rfl ?_
  refine awp_seq ?_
  refine awp_go hmix ?_
  refine go_run' ttok 2 rfl ?_
  refine go_nil nd ?_
  refine then_norm ?_
  refine awp_seq ?_
  refine awp_seq ?_
  refine awp_go hmix ?_
  refine go_run' ttok 2 rfl ?_
  obtain ⟨wv, hv1, h⟩ := of_obind h
  refine go_call fn37 (r20_within_w l b wv hv1) rfl rfl rfl rfl rfl rfl rfl ?_
  refine go_run' ttok 1 rfl ?_
  refine go_nil nd ?_
  refine then_norm ?_
  refine awp_cond (b := (!wv)) rfl (fun c2 => ?_) (fun c2 => ?_)
  · replace h := of_bif_t h c2
    refine awp_seq ?_
    refine awp_go hmix ?_
    refine go_run' ttok 1 rfl ?_
    refine go_nil nd ?_
    refine then_norm ?_
    refine awp_ret ?_
    refine then_ret ?_
    have e3 := of_some h
    subst e3
    refine ret_ret ?_
    refine fin0 ttok rfl rfl ?_
    exact (wkP_refl _ rfl)
  · replace h := of_bif_f h c2
    refine awp_skip ?_
    refine then_norm ?_
    refine awp_seq ?_
    refine awp_go hmix ?_
    refine go_run' ttok 2 rfl ?_
    obtain ⟨wv1, hv4, h⟩ := of_obind h
    refine go_call fn38 (r20_wane_w l b wv1 hv4) rfl rfl rfl rfl rfl rfl rfl ?_
    refine go_run' ttok 1 rfl ?_
    refine go_nil nd ?_
    refine then_norm ?_
    refine awp_ret ?_
    have e5 := of_some h
    subst e5
    refine ret_ret ?_
    refine fin0 ttok rfl rfl ?_
    exact (wkP_refl _ rfl)

/-- sawmill/sawmilllaw20.WorthWanes -/
noncomputable def l20_WorthWanes_g (l : (List TSlice)) (b : Bx) : Option Bool :=
  (Option.bind (l20_Small_g (⟨l, [], (⟨(⟨#[]⟩ : ByteArray), 0, 0, 0, 0, [], []⟩ : TProduct), 0⟩ : Tsawmilllaw20_Given)) (fun sv => (bif (!sv) then (Option.bind l20_awake_g (fun av => some av)) else (Option.bind (worth_Wane_g l b) (fun wv => (Option.bind (r20_Wane_g l b) (fun wv1 => (bif (wv == wv1) then (Option.bind l20_awake_g (fun av1 => some av1)) else some false))))))))
theorem l20_WorthWanes_w (l : (List TSlice)) (b : Bx) (r : Bool) (h : l20_WorthWanes_g l b = some r) : Holds Try.prog 4 [((encL encTSlice) l), (encBx b)] [] (B r) [] := by
  unfold l20_WorthWanes_g at h
  refine holds_fn Try.func4 rfl Try.ntmps4 rfl rfl rfl ?_
  refine awp_seq ?_
  refine awp_go hmix ?_
  refine go_run' ttok 2 rfl ?_
  refine go_nil nd ?_
  refine then_norm ?_
  refine awp_seq ?_
  refine awp_seq ?_
  refine awp_go hmix ?_
  refine go_run' ttok 2 rfl ?_
  obtain ⟨sv, hv1, h⟩ := of_obind h
  refine go_callL (L := []) fn14 (l20_Small_w (⟨l, [], (⟨(⟨#[]⟩ : ByteArray), 0, 0, 0, 0, [], []⟩ : TProduct), 0⟩ : Tsawmilllaw20_Given) sv hv1) rfl rfl rfl trivial ⟨⟨(wkP_refl _ rfl), wkP_nilm, (wkP_refl _ rfl), (wkP_refl _ rfl), (wkP_refl _ rfl), (wkP_refl _ rfl), (wkP_refl _ rfl), wkP_nilm, wkP_nilm, (wkP_refl _ rfl), trivial⟩, trivial⟩ rfl rfl (fun h => absurd rfl h) rfl ?_
  refine go_run' ttok 1 rfl ?_
  refine go_nil nd ?_
  refine then_norm ?_
  refine awp_cond (b := (!sv)) rfl (fun c2 => ?_) (fun c2 => ?_)
  · replace h := of_bif_t h c2
    refine awp_seq ?_
    refine awp_go hmix ?_
    obtain ⟨av, hv3, h⟩ := of_obind h
    refine go_call fn13 (l20_awake_w av hv3) rfl rfl rfl rfl rfl rfl rfl ?_
    refine go_run' ttok 1 rfl ?_
    refine go_nil nd ?_
    refine then_norm ?_
    refine awp_ret ?_
    refine then_ret ?_
    have e4 := of_some h
    subst e4
    refine ret_ret ?_
    refine fin0 ttok rfl rfl ?_
    exact (wkP_refl _ rfl)
  · replace h := of_bif_f h c2
    refine awp_skip ?_
    refine then_norm ?_
    refine awp_seq ?_
    refine awp_go hmix ?_
    refine go_run' ttok 2 rfl ?_
    obtain ⟨wv, hv5, h⟩ := of_obind h
    refine go_call fn15 (worth_Wane_w l b wv hv5) rfl rfl rfl rfl rfl rfl rfl ?_
    refine go_run' ttok 2 rfl ?_
    obtain ⟨wv1, hv6, h⟩ := of_obind h
    refine go_call fn16 (r20_Wane_w l b wv1 hv6) rfl rfl rfl rfl rfl rfl rfl ?_
    refine go_run' ttok 2 rfl ?_
    refine go_gcase rfl rfl rfl (fun g7 => ?_) (fun g7 => ?_)
    · rw [g7]
      replace h := of_bif_t h g7
      obtain ⟨av1, hv8, h⟩ := of_obind h
      refine go_call fn13 (l20_awake_w av1 hv8) rfl rfl rfl rfl rfl rfl rfl ?_
      refine go_run' ttok 2 rfl ?_
      refine go_nil (fun _ => by kernel_rfl) ?_
      refine then_norm ?_
      refine awp_ret ?_
      have e9 := of_some h
      subst e9
      refine ret_ret ?_
      refine fin0 ttok rfl rfl ?_
      exact (wkP_refl _ rfl)
    · rw [g7]
      replace h := of_bif_f h g7
      refine go_run' ttok 3 rfl ?_
      refine go_nil (fun _ => by kernel_rfl) ?_
      refine then_norm ?_
      refine awp_ret ?_
      have e10 := of_some h
      subst e10
      refine ret_ret ?_
      refine fin0 ttok rfl rfl ?_
      exact (wkP_refl _ rfl)

/-- sawmill/sawmillref13.Empty -/
noncomputable def r13_Empty_g (b : Bx) : Bool :=
  (bif (decide (b.x.b ≤ b.x.a)) then true else (bif (decide (b.y.b ≤ b.y.a)) then true else (decide (b.z.b ≤ b.z.a))))
theorem r13_Empty_w (b : Bx) (r : Bool) (h : r13_Empty_g b = r) : Holds Try.prog 77 [(encBx b)] [] (B r) [] := by
  unfold r13_Empty_g at h
  refine holds_fn Try.func77 rfl Try.ntmps77 rfl rfl rfl ?_
  refine awp_seq ?_
  refine awp_go hmix ?_
  refine go_run' ttok 2 rfl ?_
  refine go_nil nd ?_
  refine then_norm ?_
  refine awp_seq ?_
  refine awp_go hmix ?_
  refine go_run' ttok 8 rfl ?_
  refine go_gcase rfl rfl rfl (fun g1 => ?_) (fun g1 => ?_)
  · rw [g1]
    replace h := of_bif_t h g1
    refine go_run' ttok 18 rfl ?_
    refine go_nil nd ?_
    refine then_norm ?_
    refine awp_ret ?_
    have e2 := h
    subst e2
    refine ret_ret ?_
    refine fin0 ttok rfl rfl ?_
    exact (wkP_refl _ rfl)
  · rw [g1]
    replace h := of_bif_f h g1
    refine go_run' ttok 9 rfl ?_
    refine go_gcase rfl rfl rfl (fun g3 => ?_) (fun g3 => ?_)
    · rw [g3]
      replace h := of_bif_t h g3
      refine go_run' ttok 9 rfl ?_
      refine go_nil nd ?_
      refine then_norm ?_
      refine awp_ret ?_
      have e4 := h
      subst e4
      refine ret_ret ?_
      refine fin0 ttok rfl rfl ?_
      exact (wkP_refl _ rfl)
    · rw [g3]
      replace h := of_bif_f h g3
      refine go_run' ttok 9 rfl ?_
      refine go_nil nd ?_
      refine then_norm ?_
      refine awp_ret ?_
      have e5 := h
      subst e5
      refine ret_ret ?_
      refine fin0 ttok rfl rfl ?_
      exact (wkP_refl _ rfl)

/-- sawmill/sawmillref13.in -/
noncomputable def r13_in_g (s : Sp) (low : Int) (high : Int) : Bool :=
  (bif (decide (low ≤ s.a)) then (decide (s.b ≤ high)) else false)
theorem r13_in_w (s : Sp) (low : Int) (high : Int) (r : Bool) (h : r13_in_g s low high = r) : Holds Try.prog 94 [(encSp s), (I low), (I high)] [] (B r) [] := by
  unfold r13_in_g at h
  refine holds_fn Try.func94 rfl Try.ntmps94 rfl rfl rfl ?_
  refine awp_seq ?_
  refine awp_go hmix ?_
  refine go_run' ttok 2 rfl ?_
  refine go_nil nd ?_
  refine then_norm ?_
  refine awp_seq ?_
  refine awp_go hmix ?_
  refine go_run' ttok 5 rfl ?_
  refine go_gcase rfl rfl rfl (fun g1 => ?_) (fun g1 => ?_)
  · rw [g1]
    replace h := of_bif_t h g1
    refine go_run' ttok 6 rfl ?_
    refine go_nil nd ?_
    refine then_norm ?_
    refine awp_ret ?_
    have e2 := h
    subst e2
    refine ret_ret ?_
    refine fin0 ttok rfl rfl ?_
    exact (wkP_refl _ rfl)
  · rw [g1]
    replace h := of_bif_f h g1
    refine go_run' ttok 6 rfl ?_
    refine go_nil nd ?_
    refine then_norm ?_
    refine awp_ret ?_
    have e3 := h
    subst e3
    refine ret_ret ?_
    refine fin0 ttok rfl rfl ?_
    exact (wkP_refl _ rfl)

/-- sawmill/sawmillref13.Ranged -/
noncomputable def r13_Ranged_g (b : Bx) : Bool :=
  (bif (r13_in_g b.x (-600) 600) then (bif (r13_in_g b.y (-600) 600) then (r13_in_g b.z 0 20000) else false) else false)
theorem r13_Ranged_w (b : Bx) (r : Bool) (h : r13_Ranged_g b = r) : Holds Try.prog 80 [(encBx b)] [] (B r) [] := by
  unfold r13_Ranged_g at h
  refine holds_fn Try.func80 rfl Try.ntmps80 rfl rfl rfl ?_
  refine awp_seq ?_
  refine awp_go hmix ?_
  refine go_run' ttok 2 rfl ?_
  refine go_nil nd ?_
  refine then_norm ?_
  refine awp_seq ?_
  refine awp_go hmix ?_
  refine go_run' ttok 2 rfl ?_
  refine go_call fn94 (r13_in_w b.x (-600) 600 _ rfl) rfl rfl rfl rfl rfl rfl rfl ?_
  refine go_run' ttok 1 rfl ?_
  refine go_gcase rfl rfl rfl (fun g1 => ?_) (fun g1 => ?_)
  · rw [g1]
    replace h := of_bif_t h g1
    refine go_run' ttok 2 rfl ?_
    refine go_call fn94 (r13_in_w b.y (-600) 600 _ rfl) rfl rfl rfl rfl rfl rfl rfl ?_
    refine go_run' ttok 2 rfl ?_
    refine go_gcase rfl rfl rfl (fun g2 => ?_) (fun g2 => ?_)
    · rw [g2]
      replace h := of_bif_t h g2
      refine go_run' ttok 2 rfl ?_
      refine go_call fn94 (r13_in_w b.z 0 20000 _ rfl) rfl rfl rfl rfl rfl rfl rfl ?_
      refine go_run' ttok 2 rfl ?_
      refine go_nil nd ?_
      refine then_norm ?_
      refine awp_ret ?_
      have e3 := h
      subst e3
      refine ret_ret ?_
      refine fin0 ttok rfl rfl ?_
      exact (wkP_refl _ rfl)
    · rw [g2]
      replace h := of_bif_f h g2
      refine go_run' ttok 5 rfl ?_
      refine go_nil nd ?_
      refine then_norm ?_
      refine awp_ret ?_
      have e4 := h
      subst e4
      refine ret_ret ?_
      refine fin0 ttok rfl rfl ?_
      exact (wkP_refl _ rfl)
  · rw [g1]
    replace h := of_bif_f h g1
    refine go_run' ttok 10 rfl ?_
    refine go_nil nd ?_
    refine then_norm ?_
    refine awp_ret ?_
    have e5 := h
    subst e5
    refine ret_ret ?_
    refine fin0 ttok rfl rfl ?_
    exact (wkP_refl _ rfl)

noncomputable def r13_Check_s1 (l : (List Df)) (i : Int) : Option (Int ⊕ (Int ⊕ Unit)) :=
  (bif (decide (i < ((l.length : Nat) : Int))) then (Option.bind ((Option.bind (getI l i) (fun e => (bif (decide (e.k < 1)) then some true else (Option.bind (getI l i) (fun e1 => some (decide (6 < e1.k))))))) : Option Bool) (fun vv => (bif vv then some (Sum.inr (Sum.inl 10)) else (Option.bind (getI l i) (fun e2 => (bif (r13_Empty_g e2.b) then some (Sum.inr (Sum.inl 19)) else (Option.bind (getI l i) (fun e3 => (bif (!(r13_Ranged_g e3.b)) then some (Sum.inr (Sum.inl 9)) else some (Sum.inl (W64 (i + 1)))))))))))) else some (Sum.inr (Sum.inr ())))
/-- sawmill/sawmillref13.Check -/
noncomputable def r13_Check_g (l : (List Df)) : Option Int :=
  (bif (decide (64 < ((l.length : Nat) : Int))) then some 4 else (Option.bind ((loopO (fun q => r13_Check_s1 l q) 0) : Option (Int ⊕ Unit)) (Sum.elim (fun q => some q) (fun _ => some 0))))
theorem r13_Check_w (l : (List Df)) (r : Int) (h : r13_Check_g l = some r) : Holds Try.prog 59 [((encL encDf) l)] [] (I r) [] := by
  unfold r13_Check_g at h
  refine holds_fn Try.func59 rfl Try.ntmps59 rfl rfl rfl ?_
  refine awp_seq ?_
  refine awp_go hmix ?_
  refine go_run' ttok 1 rfl ?_
  refine go_nil nd ?_
  refine then_norm ?_
  refine awp_seq ?_
  refine awp_seq ?_
  refine awp_go hmix ?_
  refine go_run' ttok 1 rfl ?_
  refine go_lenT encDf l ttok rfl rfl rfl rfl rfl rfl ?_
  refine go_run' ttok 1 rfl ?_
  refine go_nil nd ?_
  refine then_norm ?_
  refine awp_cond (b := (decide (64 < ((l.length : Nat) : Int)))) rfl (fun c1 => ?_) (fun c1 => ?_)
  · replace h := of_bif_t h c1
    refine awp_seq ?_
    refine awp_go hmix ?_
    refine go_run' ttok 1 rfl ?_
    refine go_nil nd ?_
    refine then_norm ?_
    refine awp_ret ?_
    refine then_ret ?_
    have e2 := of_some h
    subst e2
    refine ret_ret ?_
    refine fin0 ttok rfl rfl ?_
    exact (wkP_refl _ rfl)
  · replace h := of_bif_f h c1
    refine awp_skip ?_
    refine then_norm ?_
    obtain ⟨y, hx3, h⟩ := of_obind h
    refine awp_seqJ (X := Unit) [] [] (fun _ => []) (fun _ => []) (fun w => Sum.inr w = y) rfl rfl ?_ ?_
    · skip
      refine awp_seq ?_
      refine awp_go hmix ?_
      refine go_run' ttok 1 rfl ?_
      refine go_nil nd ?_
      refine then_norm ?_
      refine awp_block ?_
      refine awp_loopD (X := Int) (Y := (Int ⊕ Unit)) [0] [] (fun q => [(3, (I q))]) (fun q => []) (fun q => r13_Check_s1 l q) 0 [] hx3 ⟨rfl, rfl, rfl, rfl, rfl, ⟨wkP_id _ rfl, trivial⟩, trivial⟩ (fun i vR vz hz5 hk6 => ?_)
      change r13_Check_s1 l i = _ at hz5
      unfold r13_Check_s1 at hz5
      refine awp_seq ?_
      refine awp_seq ?_
      refine awp_go hmix ?_
      refine go_run' ttok 2 rfl ?_
      refine go_lenT encDf l ttok rfl rfl rfl rfl rfl rfl ?_
      refine go_run' ttok 1 rfl ?_
      refine go_nil nd ?_
      refine then_norm ?_
      refine awp_cond (b := (decide (i < ((l.length : Nat) : Int)))) rfl (fun c7 => ?_) (fun c7 => ?_)
      · replace hz5 := of_bif_t hz5 c7
        refine awp_skip ?_
        refine then_norm ?_
        refine awp_seq ?_
        refine awp_block ?_
        refine awp_block ?_
        obtain ⟨y1, hx8, hz5⟩ := of_obind hz5
        refine awp_seqJ (X := Bool) [0, 3] [] (fun w1 => [(13, (B w1))]) (fun w1 => []) (fun w1 => w1 = y1) rfl rfl ?_ ?_
        · skip
          refine awp_go hmix ?_
          refine go_run' ttok 2 rfl ?_
          obtain ⟨e, hv10, hx8⟩ := of_obind hx8
          refine go_indexT encDf l i e hv10 ttok rfl rfl rfl rfl rfl rfl rfl rfl rfl ?_
          refine go_run' ttok 4 rfl ?_
          refine go_gcase rfl rfl rfl (fun g11 => ?_) (fun g11 => ?_)
          · rw [g11]
            replace hx8 := of_bif_t hx8 g11
            refine go_run' ttok 8 rfl ?_
            refine go_nil nd ?_
            have e12 := of_some hx8
            refine then_norm ⟨rfl, true, [], ⟨rfl, rfl, rfl, rfl, rfl, ⟨wkP_id _ rfl, trivial⟩, trivial⟩, e12⟩
          · rw [g11]
            replace hx8 := of_bif_f hx8 g11
            refine go_run' ttok 2 rfl ?_
            obtain ⟨e1, hv13, hx8⟩ := of_obind hx8
            refine go_indexT encDf l i e1 hv13 ttok rfl rfl rfl rfl rfl rfl rfl rfl rfl ?_
            refine go_run' ttok 5 rfl ?_
            refine go_nil nd ?_
            have e14 := of_some hx8
            refine then_norm ⟨rfl, (decide (6 < e1.k)), [], ⟨rfl, rfl, rfl, rfl, rfl, ⟨wkP_id _ rfl, trivial⟩, trivial⟩, e14⟩
        · intro vv hw9
          subst hw9
          refine awp_cond (b := vv) rfl (fun c15 => ?_) (fun c15 => ?_)
          · replace hz5 := of_bif_t hz5 c15
            refine awp_seq ?_
            refine awp_go hmix ?_
            refine go_run' ttok 1 rfl ?_
            refine go_nil nd ?_
            refine then_norm ?_
            refine awp_ret ?_
            refine block_ret ?_
            refine block_ret ?_
            refine then_ret ?_
            obtain ⟨t, hn16, hq⟩ := of_mapr' hz5
            subst hq
            have hq : t = _ := hk6
            subst hq
            refine then_ret ?_
            refine block_ret ?_
            obtain ⟨t1, hn17, hq⟩ := of_mapl' hn16
            subst hq
            have hq := of_inl h
            replace hq := of_some hq
            subst hq
            refine then_ret ?_
            have e18 := of_some hn17
            subst e18
            refine ret_ret ?_
            refine fin0 ttok rfl rfl ?_
            exact (wkP_refl _ rfl)
          · replace hz5 := of_bif_f hz5 c15
            refine awp_seq ?_
            refine awp_go hmix ?_
            refine go_run' ttok 2 rfl ?_
            obtain ⟨e2, hv19, hz5⟩ := of_obind hz5
            refine go_indexT encDf l i e2 hv19 ttok rfl rfl rfl rfl rfl rfl rfl rfl rfl ?_
            refine go_run' ttok 2 rfl ?_
            refine go_call fn77 (r13_Empty_w e2.b _ rfl) rfl rfl rfl rfl rfl rfl rfl ?_
            refine go_run' ttok 1 rfl ?_
            refine go_nil nd ?_
            refine then_norm ?_
            refine awp_cond (b := (r13_Empty_g e2.b)) rfl (fun c20 => ?_) (fun c20 => ?_)
            · replace hz5 := of_bif_t hz5 c20
              refine awp_seq ?_
              refine awp_go hmix ?_
              refine go_run' ttok 1 rfl ?_
              refine go_nil nd ?_
              refine then_norm ?_
              refine awp_ret ?_
              refine block_ret ?_
              refine block_ret ?_
              refine then_ret ?_
              obtain ⟨t2, hn21, hq⟩ := of_mapr' hz5
              subst hq
              have hq : t2 = _ := hk6
              subst hq
              refine then_ret ?_
              refine block_ret ?_
              obtain ⟨t3, hn22, hq⟩ := of_mapl' hn21
              subst hq
              have hq := of_inl h
              replace hq := of_some hq
              subst hq
              refine then_ret ?_
              have e23 := of_some hn22
              subst e23
              refine ret_ret ?_
              refine fin0 ttok rfl rfl ?_
              exact (wkP_refl _ rfl)
            · replace hz5 := of_bif_f hz5 c20
              refine awp_seq ?_
              refine awp_go hmix ?_
              refine go_run' ttok 2 rfl ?_
              obtain ⟨e3, hv24, hz5⟩ := of_obind hz5
              refine go_indexT encDf l i e3 hv24 ttok rfl rfl rfl rfl rfl rfl rfl rfl rfl ?_
              refine go_run' ttok 2 rfl ?_
              refine go_call fn80 (r13_Ranged_w e3.b _ rfl) rfl rfl rfl rfl rfl rfl rfl ?_
              refine go_run' ttok 2 rfl ?_
              refine go_nil nd ?_
              refine then_norm ?_
              refine awp_cond (b := (!(r13_Ranged_g e3.b))) rfl (fun c25 => ?_) (fun c25 => ?_)
              · replace hz5 := of_bif_t hz5 c25
                refine awp_seq ?_
                refine awp_go hmix ?_
                refine go_run' ttok 1 rfl ?_
                refine go_nil nd ?_
                refine then_norm ?_
                refine awp_ret ?_
                refine block_ret ?_
                refine block_ret ?_
                refine then_ret ?_
                obtain ⟨t4, hn26, hq⟩ := of_mapr' hz5
                subst hq
                have hq : t4 = _ := hk6
                subst hq
                refine then_ret ?_
                refine block_ret ?_
                obtain ⟨t5, hn27, hq⟩ := of_mapl' hn26
                subst hq
                have hq := of_inl h
                replace hq := of_some hq
                subst hq
                refine then_ret ?_
                have e28 := of_some hn27
                subst e28
                refine ret_ret ?_
                refine fin0 ttok rfl rfl ?_
                exact (wkP_refl _ rfl)
              · replace hz5 := of_bif_f hz5 c25
                refine awp_skip ?_
                refine block_norm ?_
                refine block_norm ?_
                refine then_norm ?_
                refine awp_go hmix ?_
                refine go_run' ttok 3 rfl ?_
                refine go_nil nd ?_
                have e29 := of_some hz5
                subst e29
                refine then_norm ⟨rfl, (W64 (i + 1)), [], ⟨rfl, rfl, rfl, rfl, rfl, ⟨wkP_id _ rfl, trivial⟩, trivial⟩, hk6⟩
      · replace hz5 := of_bif_f hz5 c7
        refine awp_exit ?_
        refine then_exit ?_
        obtain ⟨t6, hn30, hq⟩ := of_mapr' hz5
        subst hq
        have hq : t6 = _ := hk6
        subst hq
        refine then_exit ?_
        refine block_here ?_
        have e31 := of_some hn30
        refine then_norm ⟨rfl, (), [], ⟨rfl, rfl, rfl, rfl, rfl, trivial, trivial⟩, e31⟩
    · intro w hw4
      subst hw4
      replace h := of_inr h
      refine awp_seq ?_
      refine awp_go hmix ?_
      refine go_run' ttok 1 rfl ?_
      refine go_nil nd ?_
      refine then_norm ?_
      refine awp_ret ?_
      have e32 := of_some h
      subst e32
      refine ret_ret ?_
      refine fin0 ttok rfl rfl ?_
      exact (wkP_refl _ rfl)

/-- sawmill/sawmillref02.digit -/
noncomputable def r02_digit_g (c : Int) : Bool :=
  (bif (decide (48 ≤ c)) then (decide (c ≤ 57)) else false)
theorem r02_digit_w (c : Int) (r : Bool) (h : r02_digit_g c = r) : Holds Try.prog 95 [(U8 c)] [] (B r) [] := by
  unfold r02_digit_g at h
  refine holds_fn Try.func95 rfl Try.ntmps95 rfl rfl rfl ?_
  refine awp_seq ?_
  refine awp_go hmix ?_
  refine go_run' ttok 1 rfl ?_
  refine go_nil nd ?_
  refine then_norm ?_
  refine awp_seq ?_
  refine awp_go hmix ?_
  refine go_run' ttok 3 rfl ?_
  refine go_gcase rfl rfl rfl (fun g1 => ?_) (fun g1 => ?_)
  · rw [g1]
    replace h := of_bif_t h g1
    refine go_run' ttok 4 rfl ?_
    refine go_nil nd ?_
    refine then_norm ?_
    refine awp_ret ?_
    have e2 := h
    subst e2
    refine ret_ret ?_
    refine fin0 ttok rfl rfl ?_
    exact (wkP_refl _ rfl)
  · rw [g1]
    replace h := of_bif_f h g1
    refine go_run' ttok 4 rfl ?_
    refine go_nil nd ?_
    refine then_norm ?_
    refine awp_ret ?_
    have e3 := h
    subst e3
    refine ret_ret ?_
    refine fin0 ttok rfl rfl ?_
    exact (wkP_refl _ rfl)

noncomputable def r02_IsName_s1 (s : ByteArray) (i : Int) : Option (Int ⊕ (Bool ⊕ Unit)) :=
  (bif (decide (i < ((s.size : Nat) : Int))) then (Option.bind ((Option.bind (bytO s i) (fun c => (bif (decide (97 ≤ c)) then (Option.bind (bytO s i) (fun c1 => some (decide (c1 ≤ 122)))) else some false))) : Option Bool) (fun letter => (bif (!letter) then (bif (i == 0) then some (Sum.inr (Sum.inl false)) else (Option.bind (bytO s i) (fun c2 => (bif (c2 != 95) then (Option.bind (bytO s i) (fun c3 => (bif (!(r02_digit_g c3)) then some (Sum.inr (Sum.inl false)) else some (Sum.inl (W64 (i + 1)))))) else some (Sum.inl (W64 (i + 1))))))) else some (Sum.inl (W64 (i + 1)))))) else some (Sum.inr (Sum.inr ())))
/-- sawmill/sawmillref02.IsName -/
noncomputable def r02_IsName_g (s : ByteArray) : Option Bool :=
  (bif (decide (((s.size : Nat) : Int) < 1)) then some false else (bif (decide (16 < ((s.size : Nat) : Int))) then some false else (Option.bind ((loopO (fun q => r02_IsName_s1 s q) 0) : Option (Bool ⊕ Unit)) (Sum.elim (fun q => some q) (fun _ => some true)))))
theorem r02_IsName_w (s : ByteArray) (r : Bool) (h : r02_IsName_g s = some r) : Holds Try.prog 81 [(S s)] [] (B r) [] := by
  unfold r02_IsName_g at h
  refine holds_fn Try.func81 rfl Try.ntmps81 rfl rfl rfl ?_
  refine awp_seq ?_
  refine awp_go hmix ?_
  refine go_run' ttok 1 rfl ?_
  refine go_nil nd ?_
  refine then_norm ?_
  refine awp_seq ?_
  refine awp_seq ?_
  refine awp_go hmix ?_
  refine go_run' ttok 4 rfl ?_
  refine go_gcase rfl rfl rfl (fun g1 => ?_) (fun g1 => ?_)
  · rw [g1]
    replace h := of_bif_t h g1
    refine go_run' ttok 4 rfl ?_
    refine go_nil nd ?_
    refine then_norm ?_
    refine awp_cond rfl (fun tt0 => ?_) (fun h => by cases h)
    clear tt0
    refine awp_seq ?_
    refine awp_go hmix ?_
    refine go_run' ttok 1 rfl ?_
    refine go_nil nd ?_
    refine then_norm ?_
    refine awp_ret ?_
    refine then_ret ?_
    have e2 := of_some h
    subst e2
    refine ret_ret ?_
    refine fin0 ttok rfl rfl ?_
    exact (wkP_refl _ rfl)
  · rw [g1]
    replace h := of_bif_f h g1
    refine go_run' ttok 4 rfl ?_
    refine go_nil nd ?_
    refine then_norm ?_
    refine awp_cond (b := (decide (16 < ((s.size : Nat) : Int)))) rfl (fun c3 => ?_) (fun c3 => ?_)
    · replace h := of_bif_t h c3
      refine awp_seq ?_
      refine awp_go hmix ?_
      refine go_run' ttok 1 rfl ?_
      refine go_nil nd ?_
      refine then_norm ?_
      refine awp_ret ?_
      refine then_ret ?_
      have e4 := of_some h
      subst e4
      refine ret_ret ?_
      refine fin0 ttok rfl rfl ?_
      exact (wkP_refl _ rfl)
    · replace h := of_bif_f h c3
      refine awp_skip ?_
      refine then_norm ?_
      obtain ⟨y, hx5, h⟩ := of_obind h
      refine awp_seqJ (X := Unit) [] [] (fun _ => []) (fun _ => []) (fun w => Sum.inr w = y) rfl rfl ?_ ?_
      · skip
        refine awp_seq ?_
        refine awp_go hmix ?_
        refine go_run' ttok 1 rfl ?_
        refine go_nil nd ?_
        refine then_norm ?_
        refine awp_block ?_
        refine awp_loopD (X := Int) (Y := (Bool ⊕ Unit)) [0] [] (fun q => [(3, (I q))]) (fun q => []) (fun q => r02_IsName_s1 s q) 0 [] hx5 ⟨rfl, rfl, rfl, rfl, rfl, ⟨wkP_id _ rfl, trivial⟩, trivial⟩ (fun i vR vz hz7 hk8 => ?_)
        change r02_IsName_s1 s i = _ at hz7
        unfold r02_IsName_s1 at hz7
        refine awp_seq ?_
        refine awp_seq ?_
        refine awp_go hmix ?_
        refine go_run' ttok 4 rfl ?_
        refine go_nil nd ?_
        refine then_norm ?_
        refine awp_cond (b := (decide (i < ((s.size : Nat) : Int)))) rfl (fun c9 => ?_) (fun c9 => ?_)
        · replace hz7 := of_bif_t hz7 c9
          refine awp_skip ?_
          refine then_norm ?_
          refine awp_seq ?_
          refine awp_block ?_
          obtain ⟨y1, hx10, hz7⟩ := of_obind hz7
          refine awp_seqJ (X := Bool) [0, 3] [] (fun w1 => [(4, (B w1))]) (fun w1 => []) (fun w1 => w1 = y1) rfl rfl ?_ ?_
          · skip
            refine awp_go hmix ?_
            refine go_run' ttok 2 rfl ?_
            obtain ⟨c, hv12, hx10⟩ := of_obind hx10
            refine go_indexB s i c hv12 ttok rfl rfl rfl rfl rfl rfl rfl ?_
            refine go_run' ttok 2 rfl ?_
            refine go_gcase rfl rfl rfl (fun g13 => ?_) (fun g13 => ?_)
            · rw [g13]
              replace hx10 := of_bif_t hx10 g13
              refine go_run' ttok 2 rfl ?_
              obtain ⟨c1, hv14, hx10⟩ := of_obind hx10
              refine go_indexB s i c1 hv14 ttok rfl rfl rfl rfl rfl rfl rfl ?_
              refine go_run' ttok 3 rfl ?_
              refine go_nil nd ?_
              have e15 := of_some hx10
              refine then_norm ⟨rfl, (decide (c1 ≤ 122)), [], ⟨rfl, rfl, rfl, rfl, rfl, ⟨wkP_id _ rfl, trivial⟩, trivial⟩, e15⟩
            · rw [g13]
              replace hx10 := of_bif_f hx10 g13
              refine go_run' ttok 6 rfl ?_
              refine go_nil nd ?_
              have e16 := of_some hx10
              refine then_norm ⟨rfl, false, [], ⟨rfl, rfl, rfl, rfl, rfl, ⟨wkP_id _ rfl, trivial⟩, trivial⟩, e16⟩
          · intro letter hw11
            subst hw11
            refine awp_seq ?_
            refine awp_go hmix ?_
            refine go_run' ttok 3 rfl ?_
            refine go_gcase rfl rfl rfl (fun g17 => ?_) (fun g17 => ?_)
            · rw [g17]
              replace hz7 := of_bif_t hz7 g17
              refine go_run' ttok 3 rfl ?_
              refine go_gcase rfl rfl rfl (fun g18 => ?_) (fun g18 => ?_)
              · rw [g18]
                replace hz7 := of_bif_t hz7 g18
                refine go_run' ttok 13 rfl ?_
                refine go_nil nd ?_
                refine then_norm ?_
                refine awp_cond rfl (fun tt0 => ?_) (fun h => by cases h)
                clear tt0
                refine awp_seq ?_
                refine awp_go hmix ?_
                refine go_run' ttok 1 rfl ?_
                refine go_nil nd ?_
                refine then_norm ?_
                refine awp_ret ?_
                refine block_ret ?_
                refine then_ret ?_
                obtain ⟨t, hn19, hq⟩ := of_mapr' hz7
                subst hq
                have hq : t = _ := hk8
                subst hq
                refine then_ret ?_
                refine block_ret ?_
                obtain ⟨t1, hn20, hq⟩ := of_mapl' hn19
                subst hq
                have hq := of_inl h
                replace hq := of_some hq
                subst hq
                refine then_ret ?_
                have e21 := of_some hn20
                subst e21
                refine ret_ret ?_
                refine fin0 ttok rfl rfl ?_
                exact (wkP_refl _ rfl)
              · rw [g18]
                replace hz7 := of_bif_f hz7 g18
                refine go_run' ttok 2 rfl ?_
                obtain ⟨c2, hv22, hz7⟩ := of_obind hz7
                refine go_indexB s i c2 hv22 ttok rfl rfl rfl rfl rfl rfl rfl ?_
                refine go_run' ttok 2 rfl ?_
                refine go_gcase rfl rfl rfl (fun g23 => ?_) (fun g23 => ?_)
                · rw [g23]
                  replace hz7 := of_bif_t hz7 g23
                  refine go_run' ttok 2 rfl ?_
                  obtain ⟨c3, hv24, hz7⟩ := of_obind hz7
                  refine go_indexB s i c3 hv24 ttok rfl rfl rfl rfl rfl rfl rfl ?_
                  refine go_call fn95 (r02_digit_w c3 _ rfl) rfl rfl rfl rfl rfl rfl rfl ?_
                  refine go_run' ttok 4 rfl ?_
                  refine go_nil nd ?_
                  refine then_norm ?_
                  refine awp_cond (b := (!(r02_digit_g c3))) rfl (fun c25 => ?_) (fun c25 => ?_)
                  · replace hz7 := of_bif_t hz7 c25
                    refine awp_seq ?_
                    refine awp_go hmix ?_
                    refine go_run' ttok 1 rfl ?_
                    refine go_nil nd ?_
                    refine then_norm ?_
                    refine awp_ret ?_
                    refine block_ret ?_
                    refine then_ret ?_
                    obtain ⟨t2, hn26, hq⟩ := of_mapr' hz7
                    subst hq
                    have hq : t2 = _ := hk8
                    subst hq
                    refine then_ret ?_
                    refine block_ret ?_
                    obtain ⟨t3, hn27, hq⟩ := of_mapl' hn26
                    subst hq
                    have hq := of_inl h
                    replace hq := of_some hq
                    subst hq
                    refine then_ret ?_
                    have e28 := of_some hn27
                    subst e28
                    refine ret_ret ?_
                    refine fin0 ttok rfl rfl ?_
                    exact (wkP_refl _ rfl)
                  · replace hz7 := of_bif_f hz7 c25
                    refine awp_skip ?_
                    refine block_norm ?_
                    refine then_norm ?_
                    refine awp_go hmix ?_
                    refine go_run' ttok 3 rfl ?_
                    refine go_nil nd ?_
                    have e29 := of_some hz7
                    subst e29
                    refine then_norm ⟨rfl, (W64 (i + 1)), [], ⟨rfl, rfl, rfl, rfl, rfl, ⟨wkP_id _ rfl, trivial⟩, trivial⟩, hk8⟩
                · rw [g23]
                  replace hz7 := of_bif_f hz7 g23
                  refine go_run' ttok 8 rfl ?_
                  refine go_nil nd ?_
                  refine then_norm ?_
                  refine awp_cond rfl (fun h => by cases h) (fun tt0 => ?_)
                  clear tt0
                  refine awp_skip ?_
                  refine block_norm ?_
                  refine then_norm ?_
                  refine awp_go hmix ?_
                  refine go_run' ttok 3 rfl ?_
                  refine go_nil nd ?_
                  have e30 := of_some hz7
                  subst e30
                  refine then_norm ⟨rfl, (W64 (i + 1)), [], ⟨rfl, rfl, rfl, rfl, rfl, ⟨wkP_id _ rfl, trivial⟩, trivial⟩, hk8⟩
            · rw [g17]
              replace hz7 := of_bif_f hz7 g17
              refine go_run' ttok 16 rfl ?_
              refine go_nil nd ?_
              refine then_norm ?_
              refine awp_cond rfl (fun h => by cases h) (fun tt0 => ?_)
              clear tt0
              refine awp_skip ?_
              refine block_norm ?_
              refine then_norm ?_
              refine awp_go hmix ?_
              refine go_run' ttok 3 rfl ?_
              refine go_nil nd ?_
              have e31 := of_some hz7
              subst e31
              refine then_norm ⟨rfl, (W64 (i + 1)), [], ⟨rfl, rfl, rfl, rfl, rfl, ⟨wkP_id _ rfl, trivial⟩, trivial⟩, hk8⟩
        · replace hz7 := of_bif_f hz7 c9
          refine awp_exit ?_
          refine then_exit ?_
          obtain ⟨t4, hn32, hq⟩ := of_mapr' hz7
          subst hq
          have hq : t4 = _ := hk8
          subst hq
          refine then_exit ?_
          refine block_here ?_
          have e33 := of_some hn32
          refine then_norm ⟨rfl, (), [], ⟨rfl, rfl, rfl, rfl, rfl, trivial, trivial⟩, e33⟩
      · intro w hw6
        subst hw6
        replace h := of_inr h
        refine awp_seq ?_
        refine awp_go hmix ?_
        refine go_run' ttok 1 rfl ?_
        refine go_nil nd ?_
        refine then_norm ?_
        refine awp_ret ?_
        have e34 := of_some h
        subst e34
        refine ret_ret ?_
        refine fin0 ttok rfl rfl ?_
        exact (wkP_refl _ rfl)

/-- sawmill/sawmillref19.sized -/
noncomputable def r19_sized_g (p : TProduct) : Bool :=
  (bif (decide (1 ≤ p.Thick)) then (bif (decide (p.Thick ≤ 600)) then (bif (decide (1 ≤ p.Width)) then (decide (p.Width ≤ 600)) else false) else false) else false)
theorem r19_sized_w (p : TProduct) (r : Bool) (h : r19_sized_g p = r) : Holds Try.prog 83 [(encTProduct p)] [] (B r) [] := by
  unfold r19_sized_g at h
  refine holds_fn Try.func83 rfl Try.ntmps83 rfl rfl rfl ?_
  refine awp_seq ?_
  refine awp_go hmix ?_
  refine go_run' ttok 2 rfl ?_
  refine go_nil nd ?_
  refine then_norm ?_
  refine awp_seq ?_
  refine awp_go hmix ?_
  refine go_run' ttok 4 rfl ?_
  refine go_gcase rfl rfl rfl (fun g1 => ?_) (fun g1 => ?_)
  · rw [g1]
    replace h := of_bif_t h g1
    refine go_run' ttok 5 rfl ?_
    refine go_gcase rfl rfl rfl (fun g2 => ?_) (fun g2 => ?_)
    · rw [g2]
      replace h := of_bif_t h g2
      refine go_run' ttok 5 rfl ?_
      refine go_gcase rfl rfl rfl (fun g3 => ?_) (fun g3 => ?_)
      · rw [g3]
        replace h := of_bif_t h g3
        refine go_run' ttok 5 rfl ?_
        refine go_nil nd ?_
        refine then_norm ?_
        refine awp_ret ?_
        have e4 := h
        subst e4
        refine ret_ret ?_
        refine fin0 ttok rfl rfl ?_
        exact (wkP_refl _ rfl)
      · rw [g3]
        replace h := of_bif_f h g3
        refine go_run' ttok 5 rfl ?_
        refine go_nil nd ?_
        refine then_norm ?_
        refine awp_ret ?_
        have e5 := h
        subst e5
        refine ret_ret ?_
        refine fin0 ttok rfl rfl ?_
        exact (wkP_refl _ rfl)
    · rw [g2]
      replace h := of_bif_f h g2
      refine go_run' ttok 10 rfl ?_
      refine go_nil nd ?_
      refine then_norm ?_
      refine awp_ret ?_
      have e6 := h
      subst e6
      refine ret_ret ?_
      refine fin0 ttok rfl rfl ?_
      exact (wkP_refl _ rfl)
  · rw [g1]
    replace h := of_bif_f h g1
    refine go_run' ttok 15 rfl ?_
    refine go_nil nd ?_
    refine then_norm ?_
    refine awp_ret ?_
    have e7 := h
    subst e7
    refine ret_ret ?_
    refine fin0 ttok rfl rfl ?_
    exact (wkP_refl _ rfl)

/-- sawmill/sawmillref19.Green -/
noncomputable def r19_Green_g (p : TProduct) : (Int × Int) :=
  (bif (!(r19_sized_g p)) then (0, 0) else (bif (decide (p.Allow < 0)) then (0, 0) else (bif (decide (200 < p.Allow)) then (0, 0) else ((W64 (Int.tdiv (W64 ((W64 (p.Thick * (W64 (1000 + p.Allow)))) + 999)) 1000)), (W64 (Int.tdiv (W64 ((W64 (p.Width * (W64 (1000 + p.Allow)))) + 999)) 1000))))))
theorem r19_Green_w (p : TProduct) (r : (Int × Int)) (h : r19_Green_g p = r) : Holds Try.prog 61 [(encTProduct p)] [] (.tup [(I r.1), (I r.2)]) [] := by
  unfold r19_Green_g at h
  refine holds_fn Try.func61 rfl Try.ntmps61 rfl rfl rfl ?_
  refine awp_seq ?_
  refine awp_go hmix ?_
  refine go_run' ttok 3 rfl ?_
  refine go_nil nd ?_
  refine then_norm ?_
  refine awp_seq ?_
  refine awp_seq ?_
  refine awp_go hmix ?_
  refine go_run' ttok 1 rfl ?_
  refine go_call fn83 (r19_sized_w p _ rfl) rfl rfl rfl rfl rfl rfl rfl ?_
  refine go_run' ttok 2 rfl ?_
  refine go_gcase rfl rfl rfl (fun g1 => ?_) (fun g1 => ?_)
  · rw [g1]
    replace h := of_bif_t h g1
    refine go_run' ttok 9 rfl ?_
    refine go_nil nd ?_
    refine then_norm ?_
    refine awp_cond rfl (fun tt0 => ?_) (fun h => by cases h)
    clear tt0
    refine awp_seq ?_
    refine awp_go hmix ?_
    refine go_run' ttok 2 rfl ?_
    refine go_nil nd ?_
    refine then_norm ?_
    refine awp_ret ?_
    refine then_ret ?_
    have e2 := h
    subst e2
    refine ret_ret ?_
    refine fin0 ttok rfl rfl ?_
    exact wkP_refl _ rfl
  · rw [g1]
    replace h := of_bif_f h g1
    refine go_run' ttok 5 rfl ?_
    refine go_gcase rfl rfl rfl (fun g3 => ?_) (fun g3 => ?_)
    · rw [g3]
      replace h := of_bif_t h g3
      refine go_run' ttok 4 rfl ?_
      refine go_nil nd ?_
      refine then_norm ?_
      refine awp_cond rfl (fun tt0 => ?_) (fun h => by cases h)
      clear tt0
      refine awp_seq ?_
      refine awp_go hmix ?_
      refine go_run' ttok 2 rfl ?_
      refine go_nil nd ?_
      refine then_norm ?_
      refine awp_ret ?_
      refine then_ret ?_
      have e4 := h
      subst e4
      refine ret_ret ?_
      refine fin0 ttok rfl rfl ?_
      exact wkP_refl _ rfl
    · rw [g3]
      replace h := of_bif_f h g3
      refine go_run' ttok 4 rfl ?_
      refine go_nil nd ?_
      refine then_norm ?_
      refine awp_cond (b := (decide (200 < p.Allow))) rfl (fun c5 => ?_) (fun c5 => ?_)
      · replace h := of_bif_t h c5
        refine awp_seq ?_
        refine awp_go hmix ?_
        refine go_run' ttok 2 rfl ?_
        refine go_nil nd ?_
        refine then_norm ?_
        refine awp_ret ?_
        refine then_ret ?_
        have e6 := h
        subst e6
        refine ret_ret ?_
        refine fin0 ttok rfl rfl ?_
        exact wkP_refl _ rfl
      · replace h := of_bif_f h c5
        refine awp_skip ?_
        refine then_norm ?_
        refine awp_seq ?_
        refine awp_go hmix ?_
        refine go_run' ttok 18 rfl ?_
        refine go_nil (fun _ => by kernel_rfl) ?_
        refine then_norm ?_
        refine awp_ret ?_
        have e7 := h
        subst e7
        refine ret_ret ?_
        refine fin0 ttok rfl rfl ?_
        exact wkP_refl _ rfl

noncomputable def r19_checkLengths_s1 (p : TProduct) (i : Int) : Option (Int ⊕ (Int ⊕ Unit)) :=
  (bif (decide (i < ((p.Lengths.length : Nat) : Int))) then (Option.bind (getI p.Lengths i) (fun e => (bif (decide (e < 100)) then some (Sum.inr (Sum.inl 9)) else (Option.bind (getI p.Lengths i) (fun e1 => (bif (decide (20000 < e1)) then some (Sum.inr (Sum.inl 9)) else (bif (decide (0 < i)) then (Option.bind (getI p.Lengths i) (fun e2 => (Option.bind (getI p.Lengths (W64 (i - 1))) (fun e3 => (bif (decide (e2 ≤ e3)) then some (Sum.inr (Sum.inl 11)) else some (Sum.inl (W64 (i + 1)))))))) else some (Sum.inl (W64 (i + 1)))))))))) else some (Sum.inr (Sum.inr ())))
noncomputable def r19_checkLengths_s2 (p : TProduct) (i1 : Int) : Option (Int ⊕ (Int ⊕ Unit)) :=
  (bif (decide (i1 < ((p.Prices.length : Nat) : Int))) then (Option.bind (getI p.Prices i1) (fun e4 => (bif (decide (e4 < 0)) then some (Sum.inr (Sum.inl 9)) else (Option.bind (getI p.Prices i1) (fun e5 => (bif (decide (1000000 < e5)) then some (Sum.inr (Sum.inl 9)) else some (Sum.inl (W64 (i1 + 1))))))))) else some (Sum.inr (Sum.inr ())))
/-- sawmill/sawmillref19.checkLengths -/
noncomputable def r19_checkLengths_g (p : TProduct) : Option Int :=
  (bif (((p.Lengths.length : Nat) : Int) == 0) then some 3 else (bif (decide (8 < ((p.Lengths.length : Nat) : Int))) then some 4 else (bif (((p.Prices.length : Nat) : Int) != ((p.Lengths.length : Nat) : Int)) then some 19 else (Option.bind ((loopO (fun q => r19_checkLengths_s1 p q) 0) : Option (Int ⊕ Unit)) (Sum.elim (fun q => some q) (fun _ => (Option.bind ((loopO (fun q => r19_checkLengths_s2 p q) 0) : Option (Int ⊕ Unit)) (Sum.elim (fun q => some q) (fun _ => some 0)))))))))
theorem r19_checkLengths_w (p : TProduct) (r : Int) (h : r19_checkLengths_g p = some r) : Holds Try.prog 82 [(encTProduct p)] [] (I r) [] := by
  unfold r19_checkLengths_g at h
  refine holds_fn Try.func82 rfl Try.ntmps82 rfl rfl rfl ?_
  refine awp_seq ?_
  refine awp_go hmix ?_
  refine go_run' ttok 2 rfl ?_
  refine go_nil nd ?_
  refine then_norm ?_
  refine awp_seq ?_
  refine awp_seq ?_
  refine awp_go hmix ?_
  refine go_run' ttok 2 rfl ?_
  refine go_lenT I p.Lengths ttok rfl rfl rfl rfl rfl rfl ?_
  refine go_run' ttok 1 rfl ?_
  refine go_nil nd ?_
  refine then_norm ?_
  refine awp_cond (b := (((p.Lengths.length : Nat) : Int) == 0)) rfl (fun c1 => ?_) (fun c1 => ?_)
  · replace h := of_bif_t h c1
    refine awp_seq ?_
    refine awp_go hmix ?_
    refine go_run' ttok 1 rfl ?_
    refine go_nil nd ?_
    refine then_norm ?_
    refine awp_ret ?_
    refine then_ret ?_
    have e2 := of_some h
    subst e2
    refine ret_ret ?_
    refine fin0 ttok rfl rfl ?_
    exact (wkP_refl _ rfl)
  · replace h := of_bif_f h c1
    refine awp_skip ?_
    refine then_norm ?_
    refine awp_seq ?_
    refine awp_seq ?_
    refine awp_go hmix ?_
    refine go_run' ttok 2 rfl ?_
    refine go_lenT I p.Lengths ttok rfl rfl rfl rfl rfl rfl ?_
    refine go_run' ttok 1 rfl ?_
    refine go_nil nd ?_
    refine then_norm ?_
    refine awp_cond (b := (decide (8 < ((p.Lengths.length : Nat) : Int)))) rfl (fun c3 => ?_) (fun c3 => ?_)
    · replace h := of_bif_t h c3
      refine awp_seq ?_
      refine awp_go hmix ?_
      refine go_run' ttok 1 rfl ?_
      refine go_nil nd ?_
      refine then_norm ?_
      refine awp_ret ?_
      refine then_ret ?_
      have e4 := of_some h
      subst e4
      refine ret_ret ?_
      refine fin0 ttok rfl rfl ?_
      exact (wkP_refl _ rfl)
    · replace h := of_bif_f h c3
      refine awp_skip ?_
      refine then_norm ?_
      refine awp_seq ?_
      refine awp_seq ?_
      refine awp_go hmix ?_
      refine go_run' ttok 2 rfl ?_
      refine go_lenT I p.Prices ttok rfl rfl rfl rfl rfl rfl ?_
      refine go_run' ttok 2 rfl ?_
      refine go_lenT I p.Lengths ttok rfl rfl rfl rfl rfl rfl ?_
      refine go_run' ttok 1 rfl ?_
      refine go_nil nd ?_
      refine then_norm ?_
      refine awp_cond (b := (((p.Prices.length : Nat) : Int) != ((p.Lengths.length : Nat) : Int))) rfl (fun c5 => ?_) (fun c5 => ?_)
      · replace h := of_bif_t h c5
        refine awp_seq ?_
        refine awp_go hmix ?_
        refine go_run' ttok 1 rfl ?_
        refine go_nil nd ?_
        refine then_norm ?_
        refine awp_ret ?_
        refine then_ret ?_
        have e6 := of_some h
        subst e6
        refine ret_ret ?_
        refine fin0 ttok rfl rfl ?_
        exact (wkP_refl _ rfl)
      · replace h := of_bif_f h c5
        refine awp_skip ?_
        refine then_norm ?_
        obtain ⟨y, hx7, h⟩ := of_obind h
        refine awp_seqJ (X := Unit) [1] [1] (fun _ => []) (fun _ => []) (fun w => Sum.inr w = y) rfl rfl ?_ ?_
        · skip
          refine awp_seq ?_
          refine awp_go hmix ?_
          refine go_run' ttok 1 rfl ?_
          refine go_nil nd ?_
          refine then_norm ?_
          refine awp_block ?_
          refine awp_loopD (X := Int) (Y := (Int ⊕ Unit)) [1] [1] (fun q => [(3, (I q))]) (fun q => []) (fun q => r19_checkLengths_s1 p q) 0 [(1, some 1)] hx7 ⟨rfl, rfl, rfl, rfl, rfl, ⟨wkP_id _ rfl, trivial⟩, trivial⟩ (fun i vR vz hz9 hk10 => ?_)
          change r19_checkLengths_s1 p i = _ at hz9
          unfold r19_checkLengths_s1 at hz9
          refine awp_seq ?_
          refine awp_seq ?_
          refine awp_go hmix ?_
          refine go_run' ttok 3 rfl ?_
          refine go_lenT I p.Lengths ttok rfl rfl rfl rfl rfl rfl ?_
          refine go_run' ttok 1 rfl ?_
          refine go_nil nd ?_
          refine then_norm ?_
          refine awp_cond (b := (decide (i < ((p.Lengths.length : Nat) : Int)))) rfl (fun c11 => ?_) (fun c11 => ?_)
          · replace hz9 := of_bif_t hz9 c11
            refine awp_skip ?_
            refine then_norm ?_
            refine awp_seq ?_
            refine awp_block ?_
            refine awp_seq ?_
            refine awp_seq ?_
            refine awp_go hmix ?_
            refine go_run' ttok 3 rfl ?_
            obtain ⟨e, hv12, hz9⟩ := of_obind hz9
            refine go_indexT I p.Lengths i e hv12 ttok rfl rfl rfl rfl rfl rfl rfl rfl rfl ?_
            refine go_run' ttok 3 rfl ?_
            refine go_gcase rfl rfl rfl (fun g13 => ?_) (fun g13 => ?_)
            · rw [g13]
              replace hz9 := of_bif_t hz9 g13
              refine go_run' ttok 7 rfl ?_
              refine go_nil nd ?_
              refine then_norm ?_
              refine awp_cond rfl (fun tt0 => ?_) (fun h => by cases h)
              clear tt0
              refine awp_seq ?_
              refine awp_go hmix ?_
              refine go_run' ttok 1 rfl ?_
              refine go_nil nd ?_
              refine then_norm ?_
              refine awp_ret ?_
              refine then_ret ?_
              refine block_ret ?_
              refine then_ret ?_
              obtain ⟨t, hn14, hq⟩ := of_mapr' hz9
              subst hq
              have hq : t = _ := hk10
              subst hq
              refine then_ret ?_
              refine block_ret ?_
              obtain ⟨t1, hn15, hq⟩ := of_mapl' hn14
              subst hq
              have hq := of_inl h
              replace hq := of_some hq
              subst hq
              refine then_ret ?_
              have e16 := of_some hn15
              subst e16
              refine ret_ret ?_
              refine fin0 ttok rfl rfl ?_
              exact (wkP_refl _ rfl)
            · rw [g13]
              replace hz9 := of_bif_f hz9 g13
              refine go_run' ttok 3 rfl ?_
              obtain ⟨e1, hv17, hz9⟩ := of_obind hz9
              refine go_indexT I p.Lengths i e1 hv17 ttok rfl rfl rfl rfl rfl rfl rfl rfl rfl ?_
              refine go_run' ttok 3 rfl ?_
              refine go_nil nd ?_
              refine then_norm ?_
              refine awp_cond (b := (decide (20000 < e1))) rfl (fun c18 => ?_) (fun c18 => ?_)
              · replace hz9 := of_bif_t hz9 c18
                refine awp_seq ?_
                refine awp_go hmix ?_
                refine go_run' ttok 1 rfl ?_
                refine go_nil nd ?_
                refine then_norm ?_
                refine awp_ret ?_
                refine then_ret ?_
                refine block_ret ?_
                refine then_ret ?_
                obtain ⟨t2, hn19, hq⟩ := of_mapr' hz9
                subst hq
                have hq : t2 = _ := hk10
                subst hq
                refine then_ret ?_
                refine block_ret ?_
                obtain ⟨t3, hn20, hq⟩ := of_mapl' hn19
                subst hq
                have hq := of_inl h
                replace hq := of_some hq
                subst hq
                refine then_ret ?_
                have e21 := of_some hn20
                subst e21
                refine ret_ret ?_
                refine fin0 ttok rfl rfl ?_
                exact (wkP_refl _ rfl)
              · replace hz9 := of_bif_f hz9 c18
                refine awp_skip ?_
                refine then_norm ?_
                refine awp_seq ?_
                refine awp_go hmix ?_
                refine go_run' ttok 3 rfl ?_
                refine go_gcase rfl rfl rfl (fun g22 => ?_) (fun g22 => ?_)
                · rw [g22]
                  replace hz9 := of_bif_t hz9 g22
                  refine go_run' ttok 3 rfl ?_
                  obtain ⟨e2, hv23, hz9⟩ := of_obind hz9
                  refine go_indexT I p.Lengths i e2 hv23 ttok rfl rfl rfl rfl rfl rfl rfl rfl rfl ?_
                  refine go_run' ttok 5 rfl ?_
                  obtain ⟨e3, hv24, hz9⟩ := of_obind hz9
                  refine go_indexT I p.Lengths (W64 (i - 1)) e3 hv24 ttok rfl rfl rfl rfl rfl rfl rfl rfl rfl ?_
                  refine go_run' ttok 3 rfl ?_
                  refine go_nil (fun _ => by kernel_rfl) ?_
                  refine then_norm ?_
                  refine awp_cond (b := (decide (e2 ≤ e3))) rfl (fun c25 => ?_) (fun c25 => ?_)
                  · replace hz9 := of_bif_t hz9 c25
                    refine awp_seq ?_
                    refine awp_go hmix ?_
                    refine go_run' ttok 1 rfl ?_
                    refine go_nil nd ?_
                    refine then_norm ?_
                    refine awp_ret ?_
                    refine block_ret ?_
                    refine then_ret ?_
                    obtain ⟨t4, hn26, hq⟩ := of_mapr' hz9
                    subst hq
                    have hq : t4 = _ := hk10
                    subst hq
                    refine then_ret ?_
                    refine block_ret ?_
                    obtain ⟨t5, hn27, hq⟩ := of_mapl' hn26
                    subst hq
                    have hq := of_inl h
                    replace hq := of_some hq
                    subst hq
                    refine then_ret ?_
                    have e28 := of_some hn27
                    subst e28
                    refine ret_ret ?_
                    refine fin0 ttok rfl rfl ?_
                    exact (wkP_refl _ rfl)
                  · replace hz9 := of_bif_f hz9 c25
                    refine awp_skip ?_
                    refine block_norm ?_
                    refine then_norm ?_
                    refine awp_go hmix ?_
                    refine go_run' ttok 3 rfl ?_
                    refine go_nil nd ?_
                    have e29 := of_some hz9
                    subst e29
                    refine then_norm ⟨rfl, (W64 (i + 1)), [(1, some 1)], ⟨rfl, rfl, rfl, rfl, rfl, ⟨wkP_id _ rfl, trivial⟩, trivial⟩, hk10⟩
                · rw [g22]
                  replace hz9 := of_bif_f hz9 g22
                  refine go_run' ttok 13 rfl ?_
                  refine go_nil (fun _ => by kernel_rfl) ?_
                  refine then_norm ?_
                  refine awp_cond rfl (fun h => by cases h) (fun tt0 => ?_)
                  clear tt0
                  refine awp_skip ?_
                  refine block_norm ?_
                  refine then_norm ?_
                  refine awp_go hmix ?_
                  refine go_run' ttok 3 rfl ?_
                  refine go_nil nd ?_
                  have e30 := of_some hz9
                  subst e30
                  refine then_norm ⟨rfl, (W64 (i + 1)), [(1, some 1)], ⟨rfl, rfl, rfl, rfl, rfl, ⟨wkP_id _ rfl, trivial⟩, trivial⟩, hk10⟩
          · replace hz9 := of_bif_f hz9 c11
            refine awp_exit ?_
            refine then_exit ?_
            obtain ⟨t6, hn31, hq⟩ := of_mapr' hz9
            subst hq
            have hq : t6 = _ := hk10
            subst hq
            refine then_exit ?_
            refine block_here ?_
            have e32 := of_some hn31
            refine then_norm ⟨rfl, (), [(1, some 1)], ⟨rfl, rfl, rfl, rfl, rfl, trivial, trivial⟩, e32⟩
        · intro w hw8
          subst hw8
          replace h := of_inr h
          obtain ⟨y1, hx33, h⟩ := of_obind h
          refine awp_seqJ (X := Unit) [] [] (fun _ => []) (fun _ => []) (fun w1 => Sum.inr w1 = y1) rfl rfl ?_ ?_
          · skip
            refine awp_seq ?_
            refine awp_go hmix ?_
            refine go_run' ttok 1 rfl ?_
            refine go_nil nd ?_
            refine then_norm ?_
            refine awp_block ?_
            refine awp_loopD (X := Int) (Y := (Int ⊕ Unit)) [1] [1] (fun q => [(4, (I q))]) (fun q => []) (fun q => r19_checkLengths_s2 p q) 0 [(1, some 1)] hx33 ⟨rfl, rfl, rfl, rfl, rfl, ⟨wkP_id _ rfl, trivial⟩, trivial⟩ (fun i1 vR1 vz1 hz35 hk36 => ?_)
            change r19_checkLengths_s2 p i1 = _ at hz35
            unfold r19_checkLengths_s2 at hz35
            refine awp_seq ?_
            refine awp_seq ?_
            refine awp_go hmix ?_
            refine go_run' ttok 3 rfl ?_
            refine go_lenT I p.Prices ttok rfl rfl rfl rfl rfl rfl ?_
            refine go_run' ttok 1 rfl ?_
            refine go_nil nd ?_
            refine then_norm ?_
            refine awp_cond (b := (decide (i1 < ((p.Prices.length : Nat) : Int)))) rfl (fun c37 => ?_) (fun c37 => ?_)
            · replace hz35 := of_bif_t hz35 c37
              refine awp_skip ?_
              refine then_norm ?_
              refine awp_seq ?_
              refine awp_block ?_
              refine awp_seq ?_
              refine awp_go hmix ?_
              refine go_run' ttok 3 rfl ?_
              obtain ⟨e4, hv38, hz35⟩ := of_obind hz35
              refine go_indexT I p.Prices i1 e4 hv38 ttok rfl rfl rfl rfl rfl rfl rfl rfl rfl ?_
              refine go_run' ttok 3 rfl ?_
              refine go_gcase rfl rfl rfl (fun g39 => ?_) (fun g39 => ?_)
              · rw [g39]
                replace hz35 := of_bif_t hz35 g39
                refine go_run' ttok 7 rfl ?_
                refine go_nil nd ?_
                refine then_norm ?_
                refine awp_cond rfl (fun tt0 => ?_) (fun h => by cases h)
                clear tt0
                refine awp_seq ?_
                refine awp_go hmix ?_
                refine go_run' ttok 1 rfl ?_
                refine go_nil nd ?_
                refine then_norm ?_
                refine awp_ret ?_
                refine block_ret ?_
                refine then_ret ?_
                obtain ⟨t7, hn40, hq⟩ := of_mapr' hz35
                subst hq
                have hq : t7 = _ := hk36
                subst hq
                refine then_ret ?_
                refine block_ret ?_
                obtain ⟨t8, hn41, hq⟩ := of_mapl' hn40
                subst hq
                have hq := of_inl h
                replace hq := of_some hq
                subst hq
                refine then_ret ?_
                have e42 := of_some hn41
                subst e42
                refine ret_ret ?_
                refine fin0 ttok rfl rfl ?_
                exact (wkP_refl _ rfl)
              · rw [g39]
                replace hz35 := of_bif_f hz35 g39
                refine go_run' ttok 3 rfl ?_
                obtain ⟨e5, hv43, hz35⟩ := of_obind hz35
                refine go_indexT I p.Prices i1 e5 hv43 ttok rfl rfl rfl rfl rfl rfl rfl rfl rfl ?_
                refine go_run' ttok 3 rfl ?_
                refine go_nil nd ?_
                refine then_norm ?_
                refine awp_cond (b := (decide (1000000 < e5))) rfl (fun c44 => ?_) (fun c44 => ?_)
                · replace hz35 := of_bif_t hz35 c44
                  refine awp_seq ?_
                  refine awp_go hmix ?_
                  refine go_run' ttok 1 rfl ?_
                  refine go_nil nd ?_
                  refine then_norm ?_
                  refine awp_ret ?_
                  refine block_ret ?_
                  refine then_ret ?_
                  obtain ⟨t9, hn45, hq⟩ := of_mapr' hz35
                  subst hq
                  have hq : t9 = _ := hk36
                  subst hq
                  refine then_ret ?_
                  refine block_ret ?_
                  obtain ⟨t10, hn46, hq⟩ := of_mapl' hn45
                  subst hq
                  have hq := of_inl h
                  replace hq := of_some hq
                  subst hq
                  refine then_ret ?_
                  have e47 := of_some hn46
                  subst e47
                  refine ret_ret ?_
                  refine fin0 ttok rfl rfl ?_
                  exact (wkP_refl _ rfl)
                · replace hz35 := of_bif_f hz35 c44
                  refine awp_skip ?_
                  refine block_norm ?_
                  refine then_norm ?_
                  refine awp_go hmix ?_
                  refine go_run' ttok 3 rfl ?_
                  refine go_nil nd ?_
                  have e48 := of_some hz35
                  subst e48
                  refine then_norm ⟨rfl, (W64 (i1 + 1)), [(1, some 1)], ⟨rfl, rfl, rfl, rfl, rfl, ⟨wkP_id _ rfl, trivial⟩, trivial⟩, hk36⟩
            · replace hz35 := of_bif_f hz35 c37
              refine awp_exit ?_
              refine then_exit ?_
              obtain ⟨t11, hn49, hq⟩ := of_mapr' hz35
              subst hq
              have hq : t11 = _ := hk36
              subst hq
              refine then_exit ?_
              refine block_here ?_
              have e50 := of_some hn49
              refine then_norm ⟨rfl, (), [], ⟨rfl, rfl, rfl, rfl, rfl, trivial, trivial⟩, e50⟩
          · intro w1 hw34
            subst hw34
            replace h := of_inr h
            refine awp_seq ?_
            refine awp_go hmix ?_
            refine go_run' ttok 1 rfl ?_
            refine go_nil nd ?_
            refine then_norm ?_
            refine awp_ret ?_
            have e51 := of_some h
            subst e51
            refine ret_ret ?_
            refine fin0 ttok rfl rfl ?_
            exact (wkP_refl _ rfl)

noncomputable def r19_Check_s2 (l : (List TProduct)) (i : Int) (e : TProduct) (k : Int) : Option (Int ⊕ (((Int ⊕ (Int ⊕ Unit)) ⊕ Unit) ⊕ Unit)) :=
  (bif (decide (k < i)) then (Option.bind (getI l k) (fun e1 => (bif (bEq e1.Name e.Name) then some (Sum.inr (Sum.inl (Sum.inl (Sum.inr (Sum.inl 7))))) else some (Sum.inl (W64 (k + 1)))))) else some (Sum.inr (Sum.inr ())))
noncomputable def r19_Check_s1 (l : (List TProduct)) (i : Int) : Option (Int ⊕ (Int ⊕ Unit)) :=
  (bif (decide (i < ((l.length : Nat) : Int))) then (Option.bind ((Option.bind (getI l i) (fun e => (Option.bind (r02_IsName_g e.Name) (fun iv => (bif (!iv) then some (Sum.inl (Sum.inr (Sum.inl 6))) else (Option.bind ((loopO (fun q => r19_Check_s2 l i e q) 0) : Option (((Int ⊕ (Int ⊕ Unit)) ⊕ Unit) ⊕ Unit)) (Sum.elim (fun q => some q) (fun _ => (bif (decide (e.Thick < 5)) then some (Sum.inl (Sum.inr (Sum.inl 9))) else (bif (decide (300 < e.Thick)) then some (Sum.inl (Sum.inr (Sum.inl 9))) else (bif (decide (e.Width < e.Thick)) then some (Sum.inl (Sum.inr (Sum.inl 9))) else (bif (decide (600 < e.Width)) then some (Sum.inl (Sum.inr (Sum.inl 9))) else (bif (decide (e.Allow < 0)) then some (Sum.inl (Sum.inr (Sum.inl 9))) else (bif (decide (200 < e.Allow)) then some (Sum.inl (Sum.inr (Sum.inl 9))) else (bif (decide (e.Wane < 0)) then some (Sum.inl (Sum.inr (Sum.inl 9))) else (bif (decide (1000 < e.Wane)) then some (Sum.inl (Sum.inr (Sum.inl 9))) else (letB (r19_Green_g e) (fun gv => (bif (decide (600 < gv.2)) then some (Sum.inl (Sum.inr (Sum.inl 9))) else (Option.bind (r19_checkLengths_g e) (fun cv => (bif (cv != 0) then some (Sum.inl (Sum.inr (Sum.inl cv))) else some (Sum.inr ()))))))))))))))))))))))) : Option ((Int ⊕ (Int ⊕ Unit)) ⊕ Unit)) (Sum.elim (fun q => some q) (fun _ => some (Sum.inl (W64 (i + 1)))))) else some (Sum.inr (Sum.inr ())))
/-- sawmill/sawmillref19.Check -/
noncomputable def r19_Check_g (l : (List TProduct)) : Option Int :=
  (bif (decide (16 < ((l.length : Nat) : Int))) then some 4 else (Option.bind ((loopO (fun q => r19_Check_s1 l q) 0) : Option (Int ⊕ Unit)) (Sum.elim (fun q => some q) (fun _ => some 0))))
theorem r19_Check_w (l : (List TProduct)) (r : Int) (h : r19_Check_g l = some r) : Holds Try.prog 60 [((encL encTProduct) l)] [] (I r) [] := by
  unfold r19_Check_g at h
  refine holds_fn Try.func60 rfl Try.ntmps60 rfl rfl rfl ?_
  refine awp_seq ?_
  refine awp_go hmix ?_
  refine go_run' ttok 1 rfl ?_
  refine go_nil nd ?_
  refine then_norm ?_
  refine awp_seq ?_
  refine awp_seq ?_
  refine awp_go hmix ?_
  refine go_run' ttok 1 rfl ?_
  refine go_lenT encTProduct l ttok rfl rfl rfl rfl rfl rfl ?_
  refine go_run' ttok 1 rfl ?_
  refine go_nil nd ?_
  refine then_norm ?_
  refine awp_cond (b := (decide (16 < ((l.length : Nat) : Int)))) rfl (fun c1 => ?_) (fun c1 => ?_)
  · replace h := of_bif_t h c1
    refine awp_seq ?_
    refine awp_go hmix ?_
    refine go_run' ttok 1 rfl ?_
    refine go_nil nd ?_
    refine then_norm ?_
    refine awp_ret ?_
    refine then_ret ?_
    have e2 := of_some h
    subst e2
    refine ret_ret ?_
    refine fin0 ttok rfl rfl ?_
    exact (wkP_refl _ rfl)
  · replace h := of_bif_f h c1
    refine awp_skip ?_
    refine then_norm ?_
    obtain ⟨y, hx3, h⟩ := of_obind h
    refine awp_seqJ (X := Unit) [] [] (fun _ => []) (fun _ => []) (fun w => Sum.inr w = y) rfl rfl ?_ ?_
    · skip
      refine awp_seq ?_
      refine awp_go hmix ?_
      refine go_run' ttok 1 rfl ?_
      refine go_nil nd ?_
      refine then_norm ?_
      refine awp_block ?_
      refine awp_loopD (X := Int) (Y := (Int ⊕ Unit)) [0] [] (fun q => [(3, (I q))]) (fun q => []) (fun q => r19_Check_s1 l q) 0 [] hx3 ⟨rfl, rfl, rfl, rfl, rfl, ⟨wkP_id _ rfl, trivial⟩, trivial⟩ (fun i vR vz hz5 hk6 => ?_)
      change r19_Check_s1 l i = _ at hz5
      unfold r19_Check_s1 at hz5
      refine awp_seq ?_
      refine awp_seq ?_
      refine awp_go hmix ?_
      refine go_run' ttok 2 rfl ?_
      refine go_lenT encTProduct l ttok rfl rfl rfl rfl rfl rfl ?_
      refine go_run' ttok 1 rfl ?_
      refine go_nil nd ?_
      refine then_norm ?_
      refine awp_cond (b := (decide (i < ((l.length : Nat) : Int)))) rfl (fun c7 => ?_) (fun c7 => ?_)
      · replace hz5 := of_bif_t hz5 c7
        refine awp_skip ?_
        refine then_norm ?_
        obtain ⟨y1, hx8, hz5⟩ := of_obind hz5
        refine awp_seqJ (X := Unit) [0, 3] [] (fun _ => []) (fun _ => []) (fun w1 => Sum.inr w1 = y1) rfl rfl ?_ ?_
        · skip
          refine awp_block ?_
          refine awp_seq ?_
          refine awp_go hmix ?_
          refine go_run' ttok 2 rfl ?_
          obtain ⟨e, hv10, hx8⟩ := of_obind hx8
          refine go_indexT encTProduct l i e hv10 ttok rfl rfl rfl rfl rfl rfl rfl rfl rfl ?_
          refine go_run' ttok 3 rfl ?_
          refine go_nil nd ?_
          refine then_norm ?_
          refine awp_seq ?_
          refine awp_seq ?_
          refine awp_go hmix ?_
          refine go_run' ttok 2 rfl ?_
          obtain ⟨iv, hv11, hx8⟩ := of_obind hx8
          refine go_call fn81 (r02_IsName_w e.Name iv hv11) rfl rfl rfl rfl rfl rfl rfl ?_
          refine go_run' ttok 1 rfl ?_
          refine go_nil nd ?_
          refine then_norm ?_
          refine awp_cond (b := (!iv)) rfl (fun c12 => ?_) (fun c12 => ?_)
          · replace hx8 := of_bif_t hx8 c12
            refine awp_seq ?_
            refine awp_go hmix ?_
            refine go_run' ttok 1 rfl ?_
            refine go_nil nd ?_
            refine then_norm ?_
            refine awp_ret ?_
            refine then_ret ?_
            refine block_ret ?_
            obtain ⟨t, hn13, hq⟩ := of_mapl' hx8
            subst hq
            have hq := of_inl hz5
            replace hq := of_some hq
            subst hq
            refine then_ret ?_
            obtain ⟨t1, hn14, hq⟩ := of_mapr' hn13
            subst hq
            have hq : t1 = _ := hk6
            subst hq
            refine then_ret ?_
            refine block_ret ?_
            obtain ⟨t2, hn15, hq⟩ := of_mapl' hn14
            subst hq
            have hq := of_inl h
            replace hq := of_some hq
            subst hq
            refine then_ret ?_
            have e16 := of_some hn15
            subst e16
            refine ret_ret ?_
            refine fin0 ttok rfl rfl ?_
            exact (wkP_refl _ rfl)
          · replace hx8 := of_bif_f hx8 c12
            refine awp_skip ?_
            refine then_norm ?_
            obtain ⟨y2, hx17, hx8⟩ := of_obind hx8
            refine awp_seqJ (X := Unit) [0, 3, 4] [4] (fun _ => []) (fun _ => []) (fun w2 => Sum.inr w2 = y2) rfl rfl ?_ ?_
            · skip
              refine awp_seq ?_
              refine awp_go hmix ?_
              refine go_run' ttok 1 rfl ?_
              refine go_nil nd ?_
              refine then_norm ?_
              refine awp_block ?_
              refine awp_loopD (X := Int) (Y := (((Int ⊕ (Int ⊕ Unit)) ⊕ Unit) ⊕ Unit)) [0, 3, 4] [4] (fun q => [(5, (I q))]) (fun q => []) (fun q => r19_Check_s2 l i e q) 0 [(4, some 4)] hx17 ⟨rfl, rfl, rfl, rfl, rfl, ⟨wkP_id _ rfl, trivial⟩, trivial⟩ (fun k vR1 vz1 hz19 hk20 => ?_)
              change r19_Check_s2 l i e k = _ at hz19
              unfold r19_Check_s2 at hz19
              refine awp_seq ?_
              refine awp_seq ?_
              refine awp_go hmix ?_
              refine go_run' ttok 3 rfl ?_
              refine go_nil nd ?_
              refine then_norm ?_
              refine awp_cond (b := (decide (k < i))) rfl (fun c21 => ?_) (fun c21 => ?_)
              · replace hz19 := of_bif_t hz19 c21
                refine awp_skip ?_
                refine then_norm ?_
                refine awp_seq ?_
                refine awp_block ?_
                refine awp_seq ?_
                refine awp_go hmix ?_
                refine go_run' ttok 2 rfl ?_
                obtain ⟨e1, hv22, hz19⟩ := of_obind hz19
                refine go_indexT encTProduct l k e1 hv22 ttok rfl rfl rfl rfl rfl rfl rfl rfl rfl ?_
                refine go_run' ttok 4 rfl ?_
                refine go_eqlS e1.Name e.Name rfl rfl rfl rfl rfl ?_
                refine go_nil (fun _ => by kernel_rfl) ?_
                refine then_norm ?_
                refine awp_cond (b := (bEq e1.Name e.Name)) rfl (fun c23 => ?_) (fun c23 => ?_)
                · replace hz19 := of_bif_t hz19 c23
                  refine awp_seq ?_
                  refine awp_go hmix ?_
                  refine go_run' ttok 1 rfl ?_
                  refine go_nil nd ?_
                  refine then_norm ?_
                  refine awp_ret ?_
                  refine block_ret ?_
                  refine then_ret ?_
                  obtain ⟨t3, hn24, hq⟩ := of_mapr' hz19
                  subst hq
                  have hq : t3 = _ := hk20
                  subst hq
                  refine then_ret ?_
                  refine block_ret ?_
                  obtain ⟨t4, hn25, hq⟩ := of_mapl' hn24
                  subst hq
                  have hq := of_inl hx8
                  replace hq := of_some hq
                  subst hq
                  refine then_ret ?_
                  refine block_ret ?_
                  obtain ⟨t5, hn26, hq⟩ := of_mapl' hn25
                  subst hq
                  have hq := of_inl hz5
                  replace hq := of_some hq
                  subst hq
                  refine then_ret ?_
                  obtain ⟨t6, hn27, hq⟩ := of_mapr' hn26
                  subst hq
                  have hq : t6 = _ := hk6
                  subst hq
                  refine then_ret ?_
                  refine block_ret ?_
                  obtain ⟨t7, hn28, hq⟩ := of_mapl' hn27
                  subst hq
                  have hq := of_inl h
                  replace hq := of_some hq
                  subst hq
                  refine then_ret ?_
                  have e29 := of_some hn28
                  subst e29
                  refine ret_ret ?_
                  refine fin0 ttok rfl rfl ?_
                  exact (wkP_refl _ rfl)
                · replace hz19 := of_bif_f hz19 c23
                  refine awp_skip ?_
                  refine block_norm ?_
                  refine then_norm ?_
                  refine awp_go hmix ?_
                  refine go_run' ttok 3 rfl ?_
                  refine go_nil nd ?_
                  have e30 := of_some hz19
                  subst e30
                  refine then_norm ⟨rfl, (W64 (k + 1)), [(4, some 4)], ⟨rfl, rfl, rfl, rfl, rfl, ⟨wkP_id _ rfl, trivial⟩, trivial⟩, hk20⟩
              · replace hz19 := of_bif_f hz19 c21
                refine awp_exit ?_
                refine then_exit ?_
                obtain ⟨t8, hn31, hq⟩ := of_mapr' hz19
                subst hq
                have hq : t8 = _ := hk20
                subst hq
                refine then_exit ?_
                refine block_here ?_
                have e32 := of_some hn31
                refine then_norm ⟨rfl, (), [(4, some 4)], ⟨rfl, rfl, rfl, rfl, rfl, trivial, trivial⟩, e32⟩
            · intro w2 hw18
              subst hw18
              replace hx8 := of_inr hx8
              refine awp_seq ?_
              refine awp_seq ?_
              refine awp_go hmix ?_
              refine go_run' ttok 4 rfl ?_
              refine go_gcase rfl rfl rfl (fun g33 => ?_) (fun g33 => ?_)
              · rw [g33]
                replace hx8 := of_bif_t hx8 g33
                refine go_run' ttok 36 rfl ?_
                refine go_nil nd ?_
                refine then_norm ?_
                refine awp_cond rfl (fun tt0 => ?_) (fun h => by cases h)
                clear tt0
                refine awp_seq ?_
                refine awp_go hmix ?_
                refine go_run' ttok 1 rfl ?_
                refine go_nil nd ?_
                refine then_norm ?_
                refine awp_ret ?_
                refine then_ret ?_
                refine block_ret ?_
                obtain ⟨t9, hn34, hq⟩ := of_mapl' hx8
                subst hq
                have hq := of_inl hz5
                replace hq := of_some hq
                subst hq
                refine then_ret ?_
                obtain ⟨t10, hn35, hq⟩ := of_mapr' hn34
                subst hq
                have hq : t10 = _ := hk6
                subst hq
                refine then_ret ?_
                refine block_ret ?_
                obtain ⟨t11, hn36, hq⟩ := of_mapl' hn35
                subst hq
                have hq := of_inl h
                replace hq := of_some hq
                subst hq
                refine then_ret ?_
                have e37 := of_some hn36
                subst e37
                refine ret_ret ?_
                refine fin0 ttok rfl rfl ?_
                exact (wkP_refl _ rfl)
              · rw [g33]
                replace hx8 := of_bif_f hx8 g33
                refine go_run' ttok 5 rfl ?_
                refine go_gcase rfl rfl rfl (fun g38 => ?_) (fun g38 => ?_)
                · rw [g38]
                  replace hx8 := of_bif_t hx8 g38
                  refine go_run' ttok 31 rfl ?_
                  refine go_nil nd ?_
                  refine then_norm ?_
                  refine awp_cond rfl (fun tt0 => ?_) (fun h => by cases h)
                  clear tt0
                  refine awp_seq ?_
                  refine awp_go hmix ?_
                  refine go_run' ttok 1 rfl ?_
                  refine go_nil nd ?_
                  refine then_norm ?_
                  refine awp_ret ?_
                  refine then_ret ?_
                  refine block_ret ?_
                  obtain ⟨t12, hn39, hq⟩ := of_mapl' hx8
                  subst hq
                  have hq := of_inl hz5
                  replace hq := of_some hq
                  subst hq
                  refine then_ret ?_
                  obtain ⟨t13, hn40, hq⟩ := of_mapr' hn39
                  subst hq
                  have hq : t13 = _ := hk6
                  subst hq
                  refine then_ret ?_
                  refine block_ret ?_
                  obtain ⟨t14, hn41, hq⟩ := of_mapl' hn40
                  subst hq
                  have hq := of_inl h
                  replace hq := of_some hq
                  subst hq
                  refine then_ret ?_
                  have e42 := of_some hn41
                  subst e42
                  refine ret_ret ?_
                  refine fin0 ttok rfl rfl ?_
                  exact (wkP_refl _ rfl)
                · rw [g38]
                  replace hx8 := of_bif_f hx8 g38
                  refine go_run' ttok 7 rfl ?_
                  refine go_gcase rfl rfl rfl (fun g43 => ?_) (fun g43 => ?_)
                  · rw [g43]
                    replace hx8 := of_bif_t hx8 g43
                    refine go_run' ttok 24 rfl ?_
                    refine go_nil nd ?_
                    refine then_norm ?_
                    refine awp_cond rfl (fun tt0 => ?_) (fun h => by cases h)
                    clear tt0
                    refine awp_seq ?_
                    refine awp_go hmix ?_
                    refine go_run' ttok 1 rfl ?_
                    refine go_nil nd ?_
                    refine then_norm ?_
                    refine awp_ret ?_
                    refine then_ret ?_
                    refine block_ret ?_
                    obtain ⟨t15, hn44, hq⟩ := of_mapl' hx8
                    subst hq
                    have hq := of_inl hz5
                    replace hq := of_some hq
                    subst hq
                    refine then_ret ?_
                    obtain ⟨t16, hn45, hq⟩ := of_mapr' hn44
                    subst hq
                    have hq : t16 = _ := hk6
                    subst hq
                    refine then_ret ?_
                    refine block_ret ?_
                    obtain ⟨t17, hn46, hq⟩ := of_mapl' hn45
                    subst hq
                    have hq := of_inl h
                    replace hq := of_some hq
                    subst hq
                    refine then_ret ?_
                    have e47 := of_some hn46
                    subst e47
                    refine ret_ret ?_
                    refine fin0 ttok rfl rfl ?_
                    exact (wkP_refl _ rfl)
                  · rw [g43]
                    replace hx8 := of_bif_f hx8 g43
                    refine go_run' ttok 5 rfl ?_
                    refine go_gcase rfl rfl rfl (fun g48 => ?_) (fun g48 => ?_)
                    · rw [g48]
                      replace hx8 := of_bif_t hx8 g48
                      refine go_run' ttok 19 rfl ?_
                      refine go_nil nd ?_
                      refine then_norm ?_
                      refine awp_cond rfl (fun tt0 => ?_) (fun h => by cases h)
                      clear tt0
                      refine awp_seq ?_
                      refine awp_go hmix ?_
                      refine go_run' ttok 1 rfl ?_
                      refine go_nil nd ?_
                      refine then_norm ?_
                      refine awp_ret ?_
                      refine then_ret ?_
                      refine block_ret ?_
                      obtain ⟨t18, hn49, hq⟩ := of_mapl' hx8
                      subst hq
                      have hq := of_inl hz5
                      replace hq := of_some hq
                      subst hq
                      refine then_ret ?_
                      obtain ⟨t19, hn50, hq⟩ := of_mapr' hn49
                      subst hq
                      have hq : t19 = _ := hk6
                      subst hq
                      refine then_ret ?_
                      refine block_ret ?_
                      obtain ⟨t20, hn51, hq⟩ := of_mapl' hn50
                      subst hq
                      have hq := of_inl h
                      replace hq := of_some hq
                      subst hq
                      refine then_ret ?_
                      have e52 := of_some hn51
                      subst e52
                      refine ret_ret ?_
                      refine fin0 ttok rfl rfl ?_
                      exact (wkP_refl _ rfl)
                    · rw [g48]
                      replace hx8 := of_bif_f hx8 g48
                      refine go_run' ttok 5 rfl ?_
                      refine go_gcase rfl rfl rfl (fun g53 => ?_) (fun g53 => ?_)
                      · rw [g53]
                        replace hx8 := of_bif_t hx8 g53
                        refine go_run' ttok 14 rfl ?_
                        refine go_nil nd ?_
                        refine then_norm ?_
                        refine awp_cond rfl (fun tt0 => ?_) (fun h => by cases h)
                        clear tt0
                        refine awp_seq ?_
                        refine awp_go hmix ?_
                        refine go_run' ttok 1 rfl ?_
                        refine go_nil nd ?_
                        refine then_norm ?_
                        refine awp_ret ?_
                        refine then_ret ?_
                        refine block_ret ?_
                        obtain ⟨t21, hn54, hq⟩ := of_mapl' hx8
                        subst hq
                        have hq := of_inl hz5
                        replace hq := of_some hq
                        subst hq
                        refine then_ret ?_
                        obtain ⟨t22, hn55, hq⟩ := of_mapr' hn54
                        subst hq
                        have hq : t22 = _ := hk6
                        subst hq
                        refine then_ret ?_
                        refine block_ret ?_
                        obtain ⟨t23, hn56, hq⟩ := of_mapl' hn55
                        subst hq
                        have hq := of_inl h
                        replace hq := of_some hq
                        subst hq
                        refine then_ret ?_
                        have e57 := of_some hn56
                        subst e57
                        refine ret_ret ?_
                        refine fin0 ttok rfl rfl ?_
                        exact (wkP_refl _ rfl)
                      · rw [g53]
                        replace hx8 := of_bif_f hx8 g53
                        refine go_run' ttok 5 rfl ?_
                        refine go_gcase rfl rfl rfl (fun g58 => ?_) (fun g58 => ?_)
                        · rw [g58]
                          replace hx8 := of_bif_t hx8 g58
                          refine go_run' ttok 9 rfl ?_
                          refine go_nil nd ?_
                          refine then_norm ?_
                          refine awp_cond rfl (fun tt0 => ?_) (fun h => by cases h)
                          clear tt0
                          refine awp_seq ?_
                          refine awp_go hmix ?_
                          refine go_run' ttok 1 rfl ?_
                          refine go_nil nd ?_
                          refine then_norm ?_
                          refine awp_ret ?_
                          refine then_ret ?_
                          refine block_ret ?_
                          obtain ⟨t24, hn59, hq⟩ := of_mapl' hx8
                          subst hq
                          have hq := of_inl hz5
                          replace hq := of_some hq
                          subst hq
                          refine then_ret ?_
                          obtain ⟨t25, hn60, hq⟩ := of_mapr' hn59
                          subst hq
                          have hq : t25 = _ := hk6
                          subst hq
                          refine then_ret ?_
                          refine block_ret ?_
                          obtain ⟨t26, hn61, hq⟩ := of_mapl' hn60
                          subst hq
                          have hq := of_inl h
                          replace hq := of_some hq
                          subst hq
                          refine then_ret ?_
                          have e62 := of_some hn61
                          subst e62
                          refine ret_ret ?_
                          refine fin0 ttok rfl rfl ?_
                          exact (wkP_refl _ rfl)
                        · rw [g58]
                          replace hx8 := of_bif_f hx8 g58
                          refine go_run' ttok 5 rfl ?_
                          refine go_gcase rfl rfl rfl (fun g63 => ?_) (fun g63 => ?_)
                          · rw [g63]
                            replace hx8 := of_bif_t hx8 g63
                            refine go_run' ttok 4 rfl ?_
                            refine go_nil nd ?_
                            refine then_norm ?_
                            refine awp_cond rfl (fun tt0 => ?_) (fun h => by cases h)
                            clear tt0
                            refine awp_seq ?_
                            refine awp_go hmix ?_
                            refine go_run' ttok 1 rfl ?_
                            refine go_nil nd ?_
                            refine then_norm ?_
                            refine awp_ret ?_
                            refine then_ret ?_
                            refine block_ret ?_
                            obtain ⟨t27, hn64, hq⟩ := of_mapl' hx8
                            subst hq
                            have hq := of_inl hz5
                            replace hq := of_some hq
                            subst hq
                            refine then_ret ?_
                            obtain ⟨t28, hn65, hq⟩ := of_mapr' hn64
                            subst hq
                            have hq : t28 = _ := hk6
                            subst hq
                            refine then_ret ?_
                            refine block_ret ?_
                            obtain ⟨t29, hn66, hq⟩ := of_mapl' hn65
                            subst hq
                            have hq := of_inl h
                            replace hq := of_some hq
                            subst hq
                            refine then_ret ?_
                            have e67 := of_some hn66
                            subst e67
                            refine ret_ret ?_
                            refine fin0 ttok rfl rfl ?_
                            exact (wkP_refl _ rfl)
                          · rw [g63]
                            replace hx8 := of_bif_f hx8 g63
                            refine go_run' ttok 4 rfl ?_
                            refine go_nil nd ?_
                            refine then_norm ?_
                            refine awp_cond (b := (decide (1000 < e.Wane))) rfl (fun c68 => ?_) (fun c68 => ?_)
                            · replace hx8 := of_bif_t hx8 c68
                              refine awp_seq ?_
                              refine awp_go hmix ?_
                              refine go_run' ttok 1 rfl ?_
                              refine go_nil nd ?_
                              refine then_norm ?_
                              refine awp_ret ?_
                              refine then_ret ?_
                              refine block_ret ?_
                              obtain ⟨t30, hn69, hq⟩ := of_mapl' hx8
                              subst hq
                              have hq := of_inl hz5
                              replace hq := of_some hq
                              subst hq
                              refine then_ret ?_
                              obtain ⟨t31, hn70, hq⟩ := of_mapr' hn69
                              subst hq
                              have hq : t31 = _ := hk6
                              subst hq
                              refine then_ret ?_
                              refine block_ret ?_
                              obtain ⟨t32, hn71, hq⟩ := of_mapl' hn70
                              subst hq
                              have hq := of_inl h
                              replace hq := of_some hq
                              subst hq
                              refine then_ret ?_
                              have e72 := of_some hn71
                              subst e72
                              refine ret_ret ?_
                              refine fin0 ttok rfl rfl ?_
                              exact (wkP_refl _ rfl)
                            · replace hx8 := of_bif_f hx8 c68
                              refine awp_skip ?_
                              refine then_norm ?_
                              refine awp_seq ?_
                              refine awp_seq ?_
                              refine awp_go hmix ?_
                              refine go_run' ttok 1 rfl ?_
                              obtain ⟨gv, hv73, hx8⟩ := of_let hx8
                              refine go_call fn61 (r19_Green_w e gv hv73) rfl rfl rfl rfl rfl rfl rfl ?_
                              refine go_run' ttok 5 rfl ?_
                              refine go_nil nd ?_
                              refine then_norm ?_
                              refine awp_seq ?_
                              refine awp_go hmix ?_
                              refine go_run' ttok 2 rfl ?_
                              refine go_nil nd ?_
                              refine then_norm ?_
                              refine awp_cond (b := (decide (600 < gv.2))) rfl (fun c74 => ?_) (fun c74 => ?_)
                              · replace hx8 := of_bif_t hx8 c74
                                refine awp_seq ?_
                                refine awp_go hmix ?_
                                refine go_run' ttok 1 rfl ?_
                                refine go_nil nd ?_
                                refine then_norm ?_
                                refine awp_ret ?_
                                refine then_ret ?_
                                refine block_ret ?_
                                obtain ⟨t33, hn75, hq⟩ := of_mapl' hx8
                                subst hq
                                have hq := of_inl hz5
                                replace hq := of_some hq
                                subst hq
                                refine then_ret ?_
                                obtain ⟨t34, hn76, hq⟩ := of_mapr' hn75
                                subst hq
                                have hq : t34 = _ := hk6
                                subst hq
                                refine then_ret ?_
                                refine block_ret ?_
                                obtain ⟨t35, hn77, hq⟩ := of_mapl' hn76
                                subst hq
                                have hq := of_inl h
                                replace hq := of_some hq
                                subst hq
                                refine then_ret ?_
                                have e78 := of_some hn77
                                subst e78
                                refine ret_ret ?_
                                refine fin0 ttok rfl rfl ?_
                                exact (wkP_refl _ rfl)
                              · replace hx8 := of_bif_f hx8 c74
                                refine awp_skip ?_
                                refine then_norm ?_
                                refine awp_seq ?_
                                refine awp_go hmix ?_
                                refine go_run' ttok 1 rfl ?_
                                obtain ⟨cv, hv79, hx8⟩ := of_obind hx8
                                refine go_call fn82 (r19_checkLengths_w e cv hv79) rfl rfl rfl rfl rfl rfl rfl ?_
                                refine go_run' ttok 1 rfl ?_
                                refine go_nil nd ?_
                                refine then_norm ?_
                                refine awp_seq ?_
                                refine awp_go hmix ?_
                                refine go_run' ttok 2 rfl ?_
                                refine go_nil nd ?_
                                refine then_norm ?_
                                refine awp_cond (b := (cv != 0)) rfl (fun c80 => ?_) (fun c80 => ?_)
                                · replace hx8 := of_bif_t hx8 c80
                                  refine awp_seq ?_
                                  refine awp_go hmix ?_
                                  refine go_run' ttok 2 rfl ?_
                                  refine go_nil nd ?_
                                  refine then_norm ?_
                                  refine awp_ret ?_
                                  refine block_ret ?_
                                  obtain ⟨t36, hn81, hq⟩ := of_mapl' hx8
                                  subst hq
                                  have hq := of_inl hz5
                                  replace hq := of_some hq
                                  subst hq
                                  refine then_ret ?_
                                  obtain ⟨t37, hn82, hq⟩ := of_mapr' hn81
                                  subst hq
                                  have hq : t37 = _ := hk6
                                  subst hq
                                  refine then_ret ?_
                                  refine block_ret ?_
                                  obtain ⟨t38, hn83, hq⟩ := of_mapl' hn82
                                  subst hq
                                  have hq := of_inl h
                                  replace hq := of_some hq
                                  subst hq
                                  refine then_ret ?_
                                  have e84 := of_some hn83
                                  subst e84
                                  refine ret_ret ?_
                                  refine fin0 ttok rfl rfl ?_
                                  exact (wkP_refl _ rfl)
                                · replace hx8 := of_bif_f hx8 c80
                                  refine awp_skip ?_
                                  refine block_norm ?_
                                  have e85 := of_some hx8
                                  refine then_norm ⟨rfl, (), [], ⟨rfl, rfl, rfl, rfl, rfl, trivial, trivial⟩, e85⟩
        · intro w1 hw9
          subst hw9
          replace hz5 := of_inr hz5
          refine awp_go hmix ?_
          refine go_run' ttok 3 rfl ?_
          refine go_nil nd ?_
          have e86 := of_some hz5
          subst e86
          refine then_norm ⟨rfl, (W64 (i + 1)), [], ⟨rfl, rfl, rfl, rfl, rfl, ⟨wkP_id _ rfl, trivial⟩, trivial⟩, hk6⟩
      · replace hz5 := of_bif_f hz5 c7
        refine awp_exit ?_
        refine then_exit ?_
        obtain ⟨t39, hn87, hq⟩ := of_mapr' hz5
        subst hq
        have hq : t39 = _ := hk6
        subst hq
        refine then_exit ?_
        refine block_here ?_
        have e88 := of_some hn87
        refine then_norm ⟨rfl, (), [], ⟨rfl, rfl, rfl, rfl, rfl, trivial, trivial⟩, e88⟩
    · intro w hw4
      subst hw4
      replace h := of_inr h
      refine awp_seq ?_
      refine awp_go hmix ?_
      refine go_run' ttok 1 rfl ?_
      refine go_nil nd ?_
      refine then_norm ?_
      refine awp_ret ?_
      have e89 := of_some h
      subst e89
      refine ret_ret ?_
      refine fin0 ttok rfl rfl ?_
      exact (wkP_refl _ rfl)

/-- sawmill/sawmillref20.valid -/
noncomputable def r20_valid_g (l : (List TSlice)) (d : (List Df)) (p : TProduct) : Option Bool :=
  (Option.bind (r11_Check_g l) (fun cv => (bif (cv == 0) then (Option.bind (r13_Check_g d) (fun cv1 => (bif (cv1 == 0) then (Option.bind (r19_Check_g ([p])) (fun cv2 => some (cv2 == 0))) else some false))) else some false)))
theorem r20_valid_w (l : (List TSlice)) (d : (List Df)) (p : TProduct) (r : Bool) (h : r20_valid_g l d p = some r) : Holds Try.prog 41 [((encL encTSlice) l), ((encL encDf) d), (encTProduct p)] [] (B r) [] := by
  unfold r20_valid_g at h
  refine holds_fn Try.func41 rfl Try.ntmps41 rfl rfl rfl ?_
  refine awp_seq ?_
  refine awp_go hmix ?_
  refine go_run' ttok 2 rfl ?_
  refine go_nil nd ?_
  refine then_norm ?_
  refine awp_seq ?_
  refine awp_go hmix ?_
  refine go_run' ttok 1 rfl ?_
  obtain ⟨cv, hv1, h⟩ := of_obind h
  refine go_call fn58 (r11_Check_w l cv hv1) rfl rfl rfl rfl rfl rfl rfl ?_
  refine go_run' ttok 2 rfl ?_
  refine go_gcase rfl rfl rfl (fun g2 => ?_) (fun g2 => ?_)
  · rw [g2]
    replace h := of_bif_t h g2
    refine go_run' ttok 1 rfl ?_
    obtain ⟨cv1, hv3, h⟩ := of_obind h
    refine go_call fn59 (r13_Check_w d cv1 hv3) rfl rfl rfl rfl rfl rfl rfl ?_
    refine go_run' ttok 3 rfl ?_
    refine go_gcase rfl rfl rfl (fun g4 => ?_) (fun g4 => ?_)
    · rw [g4]
      replace h := of_bif_t h g4
      refine go_run' ttok 2 rfl ?_
      obtain ⟨cv2, hv5, h⟩ := of_obind h
      refine go_callL (L := [(17, some ⟨39, 7, ([p]).map encTProduct⟩)]) fn60 (r19_Check_w ([p]) cv2 hv5) rfl rfl rfl ⟨rfl, List.not_mem_nil, trivial⟩ ⟨(wkP_lend rfl (by first | rfl | simp [setI]) (fun _ => rfl)), trivial⟩ rfl rfl (fun _ => rfl) rfl ?_
      refine go_run' ttok 3 rfl ?_
      refine go_nil nd ?_
      refine then_norm ?_
      refine awp_ret ?_
      have e6 := of_some h
      subst e6
      refine ret_ret ?_
      refine fin0 ttok rfl rfl ?_
      exact (wkP_refl _ rfl)
    · rw [g4]
      replace h := of_bif_f h g4
      refine go_run' ttok 6 rfl ?_
      refine go_nil nd ?_
      refine then_norm ?_
      refine awp_ret ?_
      have e7 := of_some h
      subst e7
      refine ret_ret ?_
      refine fin0 ttok rfl rfl ?_
      exact (wkP_refl _ rfl)
  · rw [g2]
    replace h := of_bif_f h g2
    refine go_run' ttok 11 rfl ?_
    refine go_nil nd ?_
    refine then_norm ?_
    refine awp_ret ?_
    have e8 := of_some h
    subst e8
    refine ret_ret ?_
    refine fin0 ttok rfl rfl ?_
    exact (wkP_refl _ rfl)

noncomputable def r19_Price_s1 (p : TProduct) (length : Int) (i : Int) : Option (Int ⊕ ((Int × Bool) ⊕ Unit)) :=
  (bif (decide (i < ((p.Lengths.length : Nat) : Int))) then (Option.bind (getI p.Lengths i) (fun e => (bif (e == length) then (bif (decide (((p.Prices.length : Nat) : Int) ≤ i)) then some (Sum.inr (Sum.inl (0, false))) else (Option.bind (getI p.Prices i) (fun e1 => some (Sum.inr (Sum.inl (e1, true)))))) else some (Sum.inl (W64 (i + 1)))))) else some (Sum.inr (Sum.inr ())))
/-- sawmill/sawmillref19.Price -/
noncomputable def r19_Price_g (p : TProduct) (length : Int) : Option (Int × Bool) :=
  (Option.bind ((loopO (fun q => r19_Price_s1 p length q) 0) : Option ((Int × Bool) ⊕ Unit)) (Sum.elim (fun q => some q) (fun _ => some (0, false))))
theorem r19_Price_w (p : TProduct) (length : Int) (r : (Int × Bool)) (h : r19_Price_g p length = some r) : Holds Try.prog 56 [(encTProduct p), (I length)] [] (.tup [(I r.1), (B r.2)]) [] := by
  unfold r19_Price_g at h
  refine holds_fn Try.func56 rfl Try.ntmps56 rfl rfl rfl ?_
  refine awp_seq ?_
  refine awp_go hmix ?_
  refine go_run' ttok 3 rfl ?_
  refine go_nil nd ?_
  refine then_norm ?_
  obtain ⟨y, hx1, h⟩ := of_obind h
  refine awp_seqJ (X := Unit) [] [] (fun _ => []) (fun _ => []) (fun w => Sum.inr w = y) rfl rfl ?_ ?_
  · skip
    refine awp_seq ?_
    refine awp_go hmix ?_
    refine go_run' ttok 1 rfl ?_
    refine go_nil nd ?_
    refine then_norm ?_
    refine awp_block ?_
    refine awp_loopD (X := Int) (Y := ((Int × Bool) ⊕ Unit)) [1, 2] [2] (fun q => [(6, (I q))]) (fun q => []) (fun q => r19_Price_s1 p length q) 0 [(2, some 2)] hx1 ⟨rfl, rfl, rfl, rfl, rfl, ⟨wkP_id _ rfl, trivial⟩, trivial⟩ (fun i vR vz hz3 hk4 => ?_)
    change r19_Price_s1 p length i = _ at hz3
    unfold r19_Price_s1 at hz3
    refine awp_seq ?_
    refine awp_seq ?_
    refine awp_go hmix ?_
    refine go_run' ttok 3 rfl ?_
    refine go_lenT I p.Lengths ttok rfl rfl rfl rfl rfl rfl ?_
    refine go_run' ttok 1 rfl ?_
    refine go_nil nd ?_
    refine then_norm ?_
    refine awp_cond (b := (decide (i < ((p.Lengths.length : Nat) : Int)))) rfl (fun c5 => ?_) (fun c5 => ?_)
    · replace hz3 := of_bif_t hz3 c5
      refine awp_skip ?_
      refine then_norm ?_
      refine awp_seq ?_
      refine awp_block ?_
      refine awp_seq ?_
      refine awp_go hmix ?_
      refine go_run' ttok 3 rfl ?_
      obtain ⟨e, hv6, hz3⟩ := of_obind hz3
      refine go_indexT I p.Lengths i e hv6 ttok rfl rfl rfl rfl rfl rfl rfl rfl rfl ?_
      refine go_run' ttok 3 rfl ?_
      refine go_nil nd ?_
      refine then_norm ?_
      refine awp_cond (b := (e == length)) rfl (fun c7 => ?_) (fun c7 => ?_)
      · replace hz3 := of_bif_t hz3 c7
        refine awp_seq ?_
        refine awp_seq ?_
        refine awp_go hmix ?_
        refine go_run' ttok 3 rfl ?_
        refine go_lenT I p.Prices ttok rfl rfl rfl rfl rfl rfl ?_
        refine go_run' ttok 1 rfl ?_
        refine go_nil nd ?_
        refine then_norm ?_
        refine awp_cond (b := (decide (((p.Prices.length : Nat) : Int) ≤ i))) rfl (fun c8 => ?_) (fun c8 => ?_)
        · replace hz3 := of_bif_t hz3 c8
          refine awp_seq ?_
          refine awp_go hmix ?_
          refine go_run' ttok 2 rfl ?_
          refine go_nil nd ?_
          refine then_norm ?_
          refine awp_ret ?_
          refine then_ret ?_
          refine block_ret ?_
          refine then_ret ?_
          obtain ⟨t, hn9, hq⟩ := of_mapr' hz3
          subst hq
          have hq : t = _ := hk4
          subst hq
          refine then_ret ?_
          refine block_ret ?_
          obtain ⟨t1, hn10, hq⟩ := of_mapl' hn9
          subst hq
          have hq := of_inl h
          replace hq := of_some hq
          subst hq
          refine then_ret ?_
          have e11 := of_some hn10
          subst e11
          refine ret_ret ?_
          refine fin0 ttok rfl rfl ?_
          exact wkP_refl _ rfl
        · replace hz3 := of_bif_f hz3 c8
          refine awp_skip ?_
          refine then_norm ?_
          refine awp_seq ?_
          refine awp_go hmix ?_
          refine go_run' ttok 3 rfl ?_
          obtain ⟨e1, hv12, hz3⟩ := of_obind hz3
          refine go_indexT I p.Prices i e1 hv12 ttok rfl rfl rfl rfl rfl rfl rfl rfl rfl ?_
          refine go_run' ttok 3 rfl ?_
          refine go_nil nd ?_
          refine then_norm ?_
          refine awp_ret ?_
          refine block_ret ?_
          refine then_ret ?_
          obtain ⟨t2, hn13, hq⟩ := of_mapr' hz3
          subst hq
          have hq : t2 = _ := hk4
          subst hq
          refine then_ret ?_
          refine block_ret ?_
          obtain ⟨t3, hn14, hq⟩ := of_mapl' hn13
          subst hq
          have hq := of_inl h
          replace hq := of_some hq
          subst hq
          refine then_ret ?_
          have e15 := of_some hn14
          subst e15
          refine ret_ret ?_
          refine fin0 ttok rfl rfl ?_
          exact wkP_refl _ rfl
      · replace hz3 := of_bif_f hz3 c7
        refine awp_skip ?_
        refine block_norm ?_
        refine then_norm ?_
        refine awp_go hmix ?_
        refine go_run' ttok 3 rfl ?_
        refine go_nil nd ?_
        have e16 := of_some hz3
        subst e16
        refine then_norm ⟨rfl, (W64 (i + 1)), [(2, some 2)], ⟨rfl, rfl, rfl, rfl, rfl, ⟨wkP_id _ rfl, trivial⟩, trivial⟩, hk4⟩
    · replace hz3 := of_bif_f hz3 c5
      refine awp_exit ?_
      refine then_exit ?_
      obtain ⟨t4, hn17, hq⟩ := of_mapr' hz3
      subst hq
      have hq : t4 = _ := hk4
      subst hq
      refine then_exit ?_
      refine block_here ?_
      have e18 := of_some hn17
      refine then_norm ⟨rfl, (), [], ⟨rfl, rfl, rfl, rfl, rfl, trivial, trivial⟩, e18⟩
  · intro w hw2
    subst hw2
    replace h := of_inr h
    refine awp_seq ?_
    refine awp_go hmix ?_
    refine go_run' ttok 2 rfl ?_
    refine go_nil nd ?_
    refine then_norm ?_
    refine awp_ret ?_
    have e19 := of_some h
    subst e19
    refine ret_ret ?_
    refine fin0 ttok rfl rfl ?_
    exact wkP_refl _ rfl

/-- sawmill/sawmillref03.Meet -/
noncomputable def r03_Meet_g (a : Sp) (b : Sp) : Sp :=
  (bif (decide ((min a.b b.b) ≤ (max a.a b.a))) then (⟨0, 0⟩ : Sp) else (⟨(max a.a b.a), (min a.b b.b)⟩ : Sp))
theorem r03_Meet_w (a : Sp) (b : Sp) (r : Sp) (h : r03_Meet_g a b = r) : Holds Try.prog 92 [(encSp a), (encSp b)] [] (encSp r) [] := by
  unfold r03_Meet_g at h
  refine holds_fn Try.func92 rfl Try.ntmps92 rfl rfl rfl ?_
  refine awp_seq ?_
  refine awp_go hmix ?_
  refine go_run' ttok 3 rfl ?_
  refine go_nil nd ?_
  refine then_norm ?_
  refine awp_seq ?_
  refine awp_go hmix ?_
  refine go_run' ttok 13 rfl ?_
  refine go_nil nd ?_
  refine then_norm ?_
  refine awp_seq ?_
  refine awp_seq ?_
  refine awp_go hmix ?_
  refine go_run' ttok 5 rfl ?_
  refine go_nil nd ?_
  refine then_norm ?_
  refine awp_cond (b := (decide ((min a.b b.b) ≤ (max a.a b.a)))) rfl (fun c1 => ?_) (fun c1 => ?_)
  · replace h := of_bif_t h c1
    refine awp_seq ?_
    refine awp_go hmix ?_
    refine go_run' ttok 2 rfl ?_
    refine go_nil nd ?_
    refine then_norm ?_
    refine awp_ret ?_
    refine then_ret ?_
    have e2 := h
    subst e2
    refine ret_ret ?_
    refine fin0 ttok rfl rfl ?_
    exact (wkP_refl _ rfl)
  · replace h := of_bif_f h c1
    refine awp_skip ?_
    refine then_norm ?_
    refine awp_seq ?_
    refine awp_go hmix ?_
    refine go_run' ttok 2 rfl ?_
    refine go_nil nd ?_
    refine then_norm ?_
    refine awp_ret ?_
    have e3 := h
    subst e3
    refine ret_ret ?_
    refine fin0 ttok rfl rfl ?_
    exact (wkP_refl _ rfl)

/-- sawmill/sawmillref13.Meet -/
noncomputable def r13_Meet_g (a : Bx) (b : Bx) : Bx :=
  (letB (r03_Meet_g a.x b.x) (fun mv => (letB (r03_Meet_g a.y b.y) (fun mv1 => (letB (r03_Meet_g a.z b.z) (fun mv2 => (⟨mv, mv1, mv2⟩ : Bx)))))))
theorem r13_Meet_w (a : Bx) (b : Bx) (r : Bx) (h : r13_Meet_g a b = r) : Holds Try.prog 78 [(encBx a), (encBx b)] [] (encBx r) [] := by
  unfold r13_Meet_g at h
  refine holds_fn Try.func78 rfl Try.ntmps78 rfl rfl rfl ?_
  refine awp_seq ?_
  refine awp_go hmix ?_
  refine go_run' ttok 3 rfl ?_
  refine go_nil nd ?_
  refine then_norm ?_
  refine awp_seq ?_
  refine awp_go hmix ?_
  refine go_run' ttok 4 rfl ?_
  obtain ⟨mv, hv1, h⟩ := of_let h
  refine go_call fn92 (r03_Meet_w a.x b.x mv hv1) rfl rfl rfl rfl rfl rfl rfl ?_
  refine go_run' ttok 4 rfl ?_
  obtain ⟨mv1, hv2, h⟩ := of_let h
  refine go_call fn92 (r03_Meet_w a.y b.y mv1 hv2) rfl rfl rfl rfl rfl rfl rfl ?_
  refine go_run' ttok 4 rfl ?_
  obtain ⟨mv2, hv3, h⟩ := of_let h
  refine go_call fn92 (r03_Meet_w a.z b.z mv2 hv3) rfl rfl rfl rfl rfl rfl rfl ?_
  refine go_run' ttok 2 rfl ?_
  refine go_nil (fun _ => by kernel_rfl) ?_
  refine then_norm ?_
  refine awp_ret ?_
  have e4 := h
  subst e4
  refine ret_ret ?_
  refine fin0 ttok rfl rfl ?_
  exact (wkP_refl _ rfl)

/-- sawmill/sawmillref13.Touches -/
noncomputable def r13_Touches_g (d : Df) (b : Bx) : Bool :=
  (letB (r13_Meet_g d.b b) (fun mv => (!(r13_Empty_g mv))))
theorem r13_Touches_w (d : Df) (b : Bx) (r : Bool) (h : r13_Touches_g d b = r) : Holds Try.prog 57 [(encDf d), (encBx b)] [] (B r) [] := by
  unfold r13_Touches_g at h
  refine holds_fn Try.func57 rfl Try.ntmps57 rfl rfl rfl ?_
  refine awp_seq ?_
  refine awp_go hmix ?_
  refine go_run' ttok 3 rfl ?_
  refine go_nil nd ?_
  refine then_norm ?_
  refine awp_seq ?_
  refine awp_go hmix ?_
  refine go_run' ttok 3 rfl ?_
  obtain ⟨mv, hv1, h⟩ := of_let h
  refine go_call fn78 (r13_Meet_w d.b b mv hv1) rfl rfl rfl rfl rfl rfl rfl ?_
  refine go_call fn77 (r13_Empty_w mv _ rfl) rfl rfl rfl rfl rfl rfl rfl ?_
  refine go_run' ttok 2 rfl ?_
  refine go_nil nd ?_
  refine then_norm ?_
  refine awp_ret ?_
  have e2 := h
  subst e2
  refine ret_ret ?_
  refine fin0 ttok rfl rfl ?_
  exact (wkP_refl _ rfl)

end Go.Proofs.Ytjdgaclkcmjjcaa
