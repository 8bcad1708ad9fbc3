/- A1c: what functions of the program compute (written by mod.py). -/
import Derived.Test.YtmfgheklnjmbjaaA1b
import Derived.KernelRfl
namespace Go.Proofs.Ytmfgheklnjmbjaa
open Go Go.Ab
set_option linter.unusedSimpArgs false
set_option linter.unusedVariables false
set_option maxRecDepth 20000

/-- sawmill/sawmillref19.Green -/
noncomputable def r19_Green_g (p : TProduct) : (Int × Int) :=
  (bif (!(r19_sized_g p)) then (0, 0) else (bif (decide (p.Allow < 0)) then (0, 0) else (bif (decide (200 < p.Allow)) then (0, 0) else ((W64 (Int.tdiv (W64 ((W64 (p.Thick * (W64 (1000 + p.Allow)))) + 999)) 1000)), (W64 (Int.tdiv (W64 ((W64 (p.Width * (W64 (1000 + p.Allow)))) + 999)) 1000))))))
theorem r19_Green_w (p : TProduct) (r : (Int × Int)) (h : r19_Green_g p = r) : Holds Try.prog 60 [(encTProduct p)] [] (.tup [(I r.1), (I r.2)]) [] := by
  unfold r19_Green_g at h
  refine holds_fn Try.func60 rfl Try.ntmps60 rfl rfl rfl (fun lim => ?_)
  refine awp_seq ?_
  refine awp_go hmix ?_
  refine go_run' ttok 3 rfl ?_
  refine go_nil nd ?_
  refine then_norm ?_
  refine awp_seq ?_
  refine awp_seq ?_
  refine awp_go hmix ?_
  refine go_run' ttok 1 rfl ?_
  refine go_call fn89 (r19_sized_w p _ rfl) rfl rfl rfl rfl rfl rfl rfl ?_
  refine go_run' ttok 2 rfl ?_
  refine go_gcase rfl rfl rfl (fun g1 => ?_) (fun g1 => ?_)
  · rw [g1]
    replace h := of_bif_t h g1
    refine go_run' ttok 9 rfl ?_
    refine go_nil nd ?_
    refine then_norm ?_
    refine awp_cond rfl (fun tt0 => ?_) (fun h => by cases h)
    clear tt0
    refine awp_seq ?_
    refine awp_go hmix ?_
    refine go_run' ttok 2 rfl ?_
    refine go_nil nd ?_
    refine then_norm ?_
    refine awp_ret ?_
    refine then_ret ?_
    have e2 := h
    subst e2
    refine ret_ret ?_
    refine fin0 ttok rfl rfl ?_
    exact wkP_refl _ rfl
  · rw [g1]
    replace h := of_bif_f h g1
    refine go_run' ttok 5 rfl ?_
    refine go_gcase rfl rfl rfl (fun g3 => ?_) (fun g3 => ?_)
    · rw [g3]
      replace h := of_bif_t h g3
      refine go_run' ttok 4 rfl ?_
      refine go_nil nd ?_
      refine then_norm ?_
      refine awp_cond rfl (fun tt0 => ?_) (fun h => by cases h)
      clear tt0
      refine awp_seq ?_
      refine awp_go hmix ?_
      refine go_run' ttok 2 rfl ?_
      refine go_nil nd ?_
      refine then_norm ?_
      refine awp_ret ?_
      refine then_ret ?_
      have e4 := h
      subst e4
      refine ret_ret ?_
      refine fin0 ttok rfl rfl ?_
      exact wkP_refl _ rfl
    · rw [g3]
      replace h := of_bif_f h g3
      refine go_run' ttok 4 rfl ?_
      refine go_nil nd ?_
      refine then_norm ?_
      refine awp_cond (b := (decide (200 < p.Allow))) rfl (fun c5 => ?_) (fun c5 => ?_)
      · replace h := of_bif_t h c5
        refine awp_seq ?_
        refine awp_go hmix ?_
        refine go_run' ttok 2 rfl ?_
        refine go_nil nd ?_
        refine then_norm ?_
        refine awp_ret ?_
        refine then_ret ?_
        have e6 := h
        subst e6
        refine ret_ret ?_
        refine fin0 ttok rfl rfl ?_
        exact wkP_refl _ rfl
      · replace h := of_bif_f h c5
        refine awp_skip ?_
        refine then_norm ?_
        refine awp_seq ?_
        refine awp_go hmix ?_
        refine go_run' ttok 18 rfl ?_
        refine go_nil (fun _ => by kernel_rfl) ?_
        refine then_norm ?_
        refine awp_ret ?_
        have e7 := h
        subst e7
        refine ret_ret ?_
        refine fin0 ttok rfl rfl ?_
        exact wkP_refl _ rfl

noncomputable def r19_checkLengths_s1 (p : TProduct) (i : Int) : Option (Int ⊕ (Int ⊕ Unit)) :=
  (bif (decide (i < ((p.Lengths.length : Nat) : Int))) then (Option.bind (getI p.Lengths i) (fun e => (bif (decide (e < 100)) then some (Sum.inr (Sum.inl 9)) else (Option.bind (getI p.Lengths i) (fun e1 => (bif (decide (20000 < e1)) then some (Sum.inr (Sum.inl 9)) else (bif (decide (0 < i)) then (Option.bind (getI p.Lengths i) (fun e2 => (Option.bind (getI p.Lengths (W64 (i - 1))) (fun e3 => (bif (decide (e2 ≤ e3)) then some (Sum.inr (Sum.inl 11)) else some (Sum.inl (W64 (i + 1)))))))) else some (Sum.inl (W64 (i + 1)))))))))) else some (Sum.inr (Sum.inr ())))
noncomputable def r19_checkLengths_s2 (p : TProduct) (i1 : Int) : Option (Int ⊕ (Int ⊕ Unit)) :=
  (bif (decide (i1 < ((p.Prices.length : Nat) : Int))) then (Option.bind (getI p.Prices i1) (fun e4 => (bif (decide (e4 < 0)) then some (Sum.inr (Sum.inl 9)) else (Option.bind (getI p.Prices i1) (fun e5 => (bif (decide (1000000 < e5)) then some (Sum.inr (Sum.inl 9)) else some (Sum.inl (W64 (i1 + 1))))))))) else some (Sum.inr (Sum.inr ())))
/-- sawmill/sawmillref19.checkLengths -/
noncomputable def r19_checkLengths_g (p : TProduct) : Option Int :=
  (bif (((p.Lengths.length : Nat) : Int) == 0) then some 3 else (bif (decide (8 < ((p.Lengths.length : Nat) : Int))) then some 4 else (bif (((p.Prices.length : Nat) : Int) != ((p.Lengths.length : Nat) : Int)) then some 19 else (Option.bind ((loopO (fun q => r19_checkLengths_s1 p q) 0) : Option (Int ⊕ Unit)) (Sum.elim (fun q => some q) (fun _ => (Option.bind ((loopO (fun q => r19_checkLengths_s2 p q) 0) : Option (Int ⊕ Unit)) (Sum.elim (fun q => some q) (fun _ => some 0)))))))))
theorem r19_checkLengths_w (p : TProduct) (r : Int) (h : r19_checkLengths_g p = some r) : Holds Try.prog 61 [(encTProduct p)] [] (I r) [] := by
  unfold r19_checkLengths_g at h
  refine holds_fn Try.func61 rfl Try.ntmps61 rfl rfl rfl (fun lim => ?_)
  refine awp_seq ?_
  refine awp_go hmix ?_
  refine go_run' ttok 2 rfl ?_
  refine go_nil nd ?_
  refine then_norm ?_
  refine awp_seq ?_
  refine awp_seq ?_
  refine awp_go hmix ?_
  refine go_run' ttok 2 rfl ?_
  refine go_lenT I p.Lengths ttok rfl rfl rfl rfl rfl rfl ?_
  refine go_run' ttok 1 rfl ?_
  refine go_nil nd ?_
  refine then_norm ?_
  refine awp_cond (b := (((p.Lengths.length : Nat) : Int) == 0)) rfl (fun c1 => ?_) (fun c1 => ?_)
  · replace h := of_bif_t h c1
    refine awp_seq ?_
    refine awp_go hmix ?_
    refine go_run' ttok 1 rfl ?_
    refine go_nil nd ?_
    refine then_norm ?_
    refine awp_ret ?_
    refine then_ret ?_
    have e2 := of_some h
    subst e2
    refine ret_ret ?_
    refine fin0 ttok rfl rfl ?_
    exact (wkP_refl _ rfl)
  · replace h := of_bif_f h c1
    refine awp_skip ?_
    refine then_norm ?_
    refine awp_seq ?_
    refine awp_seq ?_
    refine awp_go hmix ?_
    refine go_run' ttok 2 rfl ?_
    refine go_lenT I p.Lengths ttok rfl rfl rfl rfl rfl rfl ?_
    refine go_run' ttok 1 rfl ?_
    refine go_nil nd ?_
    refine then_norm ?_
    refine awp_cond (b := (decide (8 < ((p.Lengths.length : Nat) : Int)))) rfl (fun c3 => ?_) (fun c3 => ?_)
    · replace h := of_bif_t h c3
      refine awp_seq ?_
      refine awp_go hmix ?_
      refine go_run' ttok 1 rfl ?_
      refine go_nil nd ?_
      refine then_norm ?_
      refine awp_ret ?_
      refine then_ret ?_
      have e4 := of_some h
      subst e4
      refine ret_ret ?_
      refine fin0 ttok rfl rfl ?_
      exact (wkP_refl _ rfl)
    · replace h := of_bif_f h c3
      refine awp_skip ?_
      refine then_norm ?_
      refine awp_seq ?_
      refine awp_seq ?_
      refine awp_go hmix ?_
      refine go_run' ttok 2 rfl ?_
      refine go_lenT I p.Prices ttok rfl rfl rfl rfl rfl rfl ?_
      refine go_run' ttok 2 rfl ?_
      refine go_lenT I p.Lengths ttok rfl rfl rfl rfl rfl rfl ?_
      refine go_run' ttok 1 rfl ?_
      refine go_nil nd ?_
      refine then_norm ?_
      refine awp_cond (b := (((p.Prices.length : Nat) : Int) != ((p.Lengths.length : Nat) : Int))) rfl (fun c5 => ?_) (fun c5 => ?_)
      · replace h := of_bif_t h c5
        refine awp_seq ?_
        refine awp_go hmix ?_
        refine go_run' ttok 1 rfl ?_
        refine go_nil nd ?_
        refine then_norm ?_
        refine awp_ret ?_
        refine then_ret ?_
        have e6 := of_some h
        subst e6
        refine ret_ret ?_
        refine fin0 ttok rfl rfl ?_
        exact (wkP_refl _ rfl)
      · replace h := of_bif_f h c5
        refine awp_skip ?_
        refine then_norm ?_
        obtain ⟨y, hx7, h⟩ := of_obind h
        refine awp_seqJ (X := Unit) [1] [1] (fun _ => []) (fun _ => []) (fun w => Sum.inr w = y) rfl rfl ?_ ?_
        · skip
          refine awp_seq ?_
          refine awp_go hmix ?_
          refine go_run' ttok 1 rfl ?_
          refine go_nil nd ?_
          refine then_norm ?_
          refine awp_block ?_
          refine awp_loopD (X := Int) (Y := (Int ⊕ Unit)) [1] [1] (fun q => [(3, (I q))]) (fun q => []) (fun q => r19_checkLengths_s1 p q) 0 [(1, some 1)] hx7 ⟨rfl, rfl, rfl, rfl, rfl, ⟨wkP_id _ rfl, trivial⟩, trivial⟩ (fun i vR vz hz9 hk10 => ?_)
          change r19_checkLengths_s1 p i = _ at hz9
          unfold r19_checkLengths_s1 at hz9
          refine awp_seq ?_
          refine awp_seq ?_
          refine awp_go hmix ?_
          refine go_run' ttok 3 rfl ?_
          refine go_lenT I p.Lengths ttok rfl rfl rfl rfl rfl rfl ?_
          refine go_run' ttok 1 rfl ?_
          refine go_nil nd ?_
          refine then_norm ?_
          refine awp_cond (b := (decide (i < ((p.Lengths.length : Nat) : Int)))) rfl (fun c11 => ?_) (fun c11 => ?_)
          · replace hz9 := of_bif_t hz9 c11
            refine awp_skip ?_
            refine then_norm ?_
            refine awp_seq ?_
            refine awp_block ?_
            refine awp_seq ?_
            refine awp_seq ?_
            refine awp_go hmix ?_
            refine go_run' ttok 3 rfl ?_
            obtain ⟨e, hv12, hz9⟩ := of_obind hz9
            refine go_indexT I p.Lengths i e hv12 ttok rfl rfl rfl rfl rfl rfl rfl rfl rfl ?_
            refine go_run' ttok 3 rfl ?_
            refine go_gcase rfl rfl rfl (fun g13 => ?_) (fun g13 => ?_)
            · rw [g13]
              replace hz9 := of_bif_t hz9 g13
              refine go_run' ttok 7 rfl ?_
              refine go_nil nd ?_
              refine then_norm ?_
              refine awp_cond rfl (fun tt0 => ?_) (fun h => by cases h)
              clear tt0
              refine awp_seq ?_
              refine awp_go hmix ?_
              refine go_run' ttok 1 rfl ?_
              refine go_nil nd ?_
              refine then_norm ?_
              refine awp_ret ?_
              refine then_ret ?_
              refine block_ret ?_
              refine then_ret ?_
              obtain ⟨t, hn14, hq⟩ := of_mapr' hz9
              subst hq
              have hq : t = _ := hk10
              subst hq
              refine then_ret ?_
              refine block_ret ?_
              obtain ⟨t1, hn15, hq⟩ := of_mapl' hn14
              subst hq
              have hq := of_inl h
              replace hq := of_some hq
              subst hq
              refine then_ret ?_
              have e16 := of_some hn15
              subst e16
              refine ret_ret ?_
              refine fin0 ttok rfl rfl ?_
              exact (wkP_refl _ rfl)
            · rw [g13]
              replace hz9 := of_bif_f hz9 g13
              refine go_run' ttok 3 rfl ?_
              obtain ⟨e1, hv17, hz9⟩ := of_obind hz9
              refine go_indexT I p.Lengths i e1 hv17 ttok rfl rfl rfl rfl rfl rfl rfl rfl rfl ?_
              refine go_run' ttok 3 rfl ?_
              refine go_nil nd ?_
              refine then_norm ?_
              refine awp_cond (b := (decide (20000 < e1))) rfl (fun c18 => ?_) (fun c18 => ?_)
              · replace hz9 := of_bif_t hz9 c18
                refine awp_seq ?_
                refine awp_go hmix ?_
                refine go_run' ttok 1 rfl ?_
                refine go_nil nd ?_
                refine then_norm ?_
                refine awp_ret ?_
                refine then_ret ?_
                refine block_ret ?_
                refine then_ret ?_
                obtain ⟨t2, hn19, hq⟩ := of_mapr' hz9
                subst hq
                have hq : t2 = _ := hk10
                subst hq
                refine then_ret ?_
                refine block_ret ?_
                obtain ⟨t3, hn20, hq⟩ := of_mapl' hn19
                subst hq
                have hq := of_inl h
                replace hq := of_some hq
                subst hq
                refine then_ret ?_
                have e21 := of_some hn20
                subst e21
                refine ret_ret ?_
                refine fin0 ttok rfl rfl ?_
                exact (wkP_refl _ rfl)
              · replace hz9 := of_bif_f hz9 c18
                refine awp_skip ?_
                refine then_norm ?_
                refine awp_seq ?_
                refine awp_go hmix ?_
                refine go_run' ttok 3 rfl ?_
                refine go_gcase rfl rfl rfl (fun g22 => ?_) (fun g22 => ?_)
                · rw [g22]
                  replace hz9 := of_bif_t hz9 g22
                  refine go_run' ttok 3 rfl ?_
                  obtain ⟨e2, hv23, hz9⟩ := of_obind hz9
                  refine go_indexT I p.Lengths i e2 hv23 ttok rfl rfl rfl rfl rfl rfl rfl rfl rfl ?_
                  refine go_run' ttok 5 rfl ?_
                  obtain ⟨e3, hv24, hz9⟩ := of_obind hz9
                  refine go_indexT I p.Lengths (W64 (i - 1)) e3 hv24 ttok rfl rfl rfl rfl rfl rfl rfl rfl rfl ?_
                  refine go_run' ttok 3 rfl ?_
                  refine go_nil (fun _ => by kernel_rfl) ?_
                  refine then_norm ?_
                  refine awp_cond (b := (decide (e2 ≤ e3))) rfl (fun c25 => ?_) (fun c25 => ?_)
                  · replace hz9 := of_bif_t hz9 c25
                    refine awp_seq ?_
                    refine awp_go hmix ?_
                    refine go_run' ttok 1 rfl ?_
                    refine go_nil nd ?_
                    refine then_norm ?_
                    refine awp_ret ?_
                    refine block_ret ?_
                    refine then_ret ?_
                    obtain ⟨t4, hn26, hq⟩ := of_mapr' hz9
                    subst hq
                    have hq : t4 = _ := hk10
                    subst hq
                    refine then_ret ?_
                    refine block_ret ?_
                    obtain ⟨t5, hn27, hq⟩ := of_mapl' hn26
                    subst hq
                    have hq := of_inl h
                    replace hq := of_some hq
                    subst hq
                    refine then_ret ?_
                    have e28 := of_some hn27
                    subst e28
                    refine ret_ret ?_
                    refine fin0 ttok rfl rfl ?_
                    exact (wkP_refl _ rfl)
                  · replace hz9 := of_bif_f hz9 c25
                    refine awp_skip ?_
                    refine block_norm ?_
                    refine then_norm ?_
                    refine awp_go hmix ?_
                    refine go_run' ttok 3 rfl ?_
                    refine go_nil nd ?_
                    have e29 := of_some hz9
                    subst e29
                    refine then_norm ⟨rfl, (W64 (i + 1)), [(1, some 1)], ⟨rfl, rfl, rfl, rfl, rfl, ⟨wkP_id _ rfl, trivial⟩, trivial⟩, hk10⟩
                · rw [g22]
                  replace hz9 := of_bif_f hz9 g22
                  refine go_run' ttok 13 rfl ?_
                  refine go_nil (fun _ => by kernel_rfl) ?_
                  refine then_norm ?_
                  refine awp_cond rfl (fun h => by cases h) (fun tt0 => ?_)
                  clear tt0
                  refine awp_skip ?_
                  refine block_norm ?_
                  refine then_norm ?_
                  refine awp_go hmix ?_
                  refine go_run' ttok 3 rfl ?_
                  refine go_nil nd ?_
                  have e30 := of_some hz9
                  subst e30
                  refine then_norm ⟨rfl, (W64 (i + 1)), [(1, some 1)], ⟨rfl, rfl, rfl, rfl, rfl, ⟨wkP_id _ rfl, trivial⟩, trivial⟩, hk10⟩
          · replace hz9 := of_bif_f hz9 c11
            refine awp_exit ?_
            refine then_exit ?_
            obtain ⟨t6, hn31, hq⟩ := of_mapr' hz9
            subst hq
            have hq : t6 = _ := hk10
            subst hq
            refine then_exit ?_
            refine block_here ?_
            have e32 := of_some hn31
            refine then_norm ⟨rfl, (), [(1, some 1)], ⟨rfl, rfl, rfl, rfl, rfl, trivial, trivial⟩, e32⟩
        · intro w hw8
          subst hw8
          replace h := of_inr h
          obtain ⟨y1, hx33, h⟩ := of_obind h
          refine awp_seqJ (X := Unit) [] [] (fun _ => []) (fun _ => []) (fun w1 => Sum.inr w1 = y1) rfl rfl ?_ ?_
          · skip
            refine awp_seq ?_
            refine awp_go hmix ?_
            refine go_run' ttok 1 rfl ?_
            refine go_nil nd ?_
            refine then_norm ?_
            refine awp_block ?_
            refine awp_loopD (X := Int) (Y := (Int ⊕ Unit)) [1] [1] (fun q => [(4, (I q))]) (fun q => []) (fun q => r19_checkLengths_s2 p q) 0 [(1, some 1)] hx33 ⟨rfl, rfl, rfl, rfl, rfl, ⟨wkP_id _ rfl, trivial⟩, trivial⟩ (fun i1 vR1 vz1 hz35 hk36 => ?_)
            change r19_checkLengths_s2 p i1 = _ at hz35
            unfold r19_checkLengths_s2 at hz35
            refine awp_seq ?_
            refine awp_seq ?_
            refine awp_go hmix ?_
            refine go_run' ttok 3 rfl ?_
            refine go_lenT I p.Prices ttok rfl rfl rfl rfl rfl rfl ?_
            refine go_run' ttok 1 rfl ?_
            refine go_nil nd ?_
            refine then_norm ?_
            refine awp_cond (b := (decide (i1 < ((p.Prices.length : Nat) : Int)))) rfl (fun c37 => ?_) (fun c37 => ?_)
            · replace hz35 := of_bif_t hz35 c37
              refine awp_skip ?_
              refine then_norm ?_
              refine awp_seq ?_
              refine awp_block ?_
              refine awp_seq ?_
              refine awp_go hmix ?_
              refine go_run' ttok 3 rfl ?_
              obtain ⟨e4, hv38, hz35⟩ := of_obind hz35
              refine go_indexT I p.Prices i1 e4 hv38 ttok rfl rfl rfl rfl rfl rfl rfl rfl rfl ?_
              refine go_run' ttok 3 rfl ?_
              refine go_gcase rfl rfl rfl (fun g39 => ?_) (fun g39 => ?_)
              · rw [g39]
                replace hz35 := of_bif_t hz35 g39
                refine go_run' ttok 7 rfl ?_
                refine go_nil nd ?_
                refine then_norm ?_
                refine awp_cond rfl (fun tt0 => ?_) (fun h => by cases h)
                clear tt0
                refine awp_seq ?_
                refine awp_go hmix ?_
                refine go_run' ttok 1 rfl ?_
                refine go_nil nd ?_
                refine then_norm ?_
                refine awp_ret ?_
                refine block_ret ?_
                refine then_ret ?_
                obtain ⟨t7, hn40, hq⟩ := of_mapr' hz35
                subst hq
                have hq : t7 = _ := hk36
                subst hq
                refine then_ret ?_
                refine block_ret ?_
                obtain ⟨t8, hn41, hq⟩ := of_mapl' hn40
                subst hq
                have hq := of_inl h
                replace hq := of_some hq
                subst hq
                refine then_ret ?_
                have e42 := of_some hn41
                subst e42
                refine ret_ret ?_
                refine fin0 ttok rfl rfl ?_
                exact (wkP_refl _ rfl)
              · rw [g39]
                replace hz35 := of_bif_f hz35 g39
                refine go_run' ttok 3 rfl ?_
                obtain ⟨e5, hv43, hz35⟩ := of_obind hz35
                refine go_indexT I p.Prices i1 e5 hv43 ttok rfl rfl rfl rfl rfl rfl rfl rfl rfl ?_
                refine go_run' ttok 3 rfl ?_
                refine go_nil nd ?_
                refine then_norm ?_
                refine awp_cond (b := (decide (1000000 < e5))) rfl (fun c44 => ?_) (fun c44 => ?_)
                · replace hz35 := of_bif_t hz35 c44
                  refine awp_seq ?_
                  refine awp_go hmix ?_
                  refine go_run' ttok 1 rfl ?_
                  refine go_nil nd ?_
                  refine then_norm ?_
                  refine awp_ret ?_
                  refine block_ret ?_
                  refine then_ret ?_
                  obtain ⟨t9, hn45, hq⟩ := of_mapr' hz35
                  subst hq
                  have hq : t9 = _ := hk36
                  subst hq
                  refine then_ret ?_
                  refine block_ret ?_
                  obtain ⟨t10, hn46, hq⟩ := of_mapl' hn45
                  subst hq
                  have hq := of_inl h
                  replace hq := of_some hq
                  subst hq
                  refine then_ret ?_
                  have e47 := of_some hn46
                  subst e47
                  refine ret_ret ?_
                  refine fin0 ttok rfl rfl ?_
                  exact (wkP_refl _ rfl)
                · replace hz35 := of_bif_f hz35 c44
                  refine awp_skip ?_
                  refine block_norm ?_
                  refine then_norm ?_
                  refine awp_go hmix ?_
                  refine go_run' ttok 3 rfl ?_
                  refine go_nil nd ?_
                  have e48 := of_some hz35
                  subst e48
                  refine then_norm ⟨rfl, (W64 (i1 + 1)), [(1, some 1)], ⟨rfl, rfl, rfl, rfl, rfl, ⟨wkP_id _ rfl, trivial⟩, trivial⟩, hk36⟩
            · replace hz35 := of_bif_f hz35 c37
              refine awp_exit ?_
              refine then_exit ?_
              obtain ⟨t11, hn49, hq⟩ := of_mapr' hz35
              subst hq
              have hq : t11 = _ := hk36
              subst hq
              refine then_exit ?_
              refine block_here ?_
              have e50 := of_some hn49
              refine then_norm ⟨rfl, (), [], ⟨rfl, rfl, rfl, rfl, rfl, trivial, trivial⟩, e50⟩
          · intro w1 hw34
            subst hw34
            replace h := of_inr h
            refine awp_seq ?_
            refine awp_go hmix ?_
            refine go_run' ttok 1 rfl ?_
            refine go_nil nd ?_
            refine then_norm ?_
            refine awp_ret ?_
            have e51 := of_some h
            subst e51
            refine ret_ret ?_
            refine fin0 ttok rfl rfl ?_
            exact (wkP_refl _ rfl)

noncomputable def r19_Check_s2 (l : (List TProduct)) (i : Int) (e : TProduct) (k : Int) : Option (Int ⊕ (((Int ⊕ (Int ⊕ Unit)) ⊕ Unit) ⊕ Unit)) :=
  (bif (decide (k < i)) then (Option.bind (getI l k) (fun e1 => (bif (bEq e1.Name e.Name) then some (Sum.inr (Sum.inl (Sum.inl (Sum.inr (Sum.inl 7))))) else some (Sum.inl (W64 (k + 1)))))) else some (Sum.inr (Sum.inr ())))
noncomputable def r19_Check_s1 (l : (List TProduct)) (i : Int) : Option (Int ⊕ (Int ⊕ Unit)) :=
  (bif (decide (i < ((l.length : Nat) : Int))) then (Option.bind ((Option.bind (getI l i) (fun e => (Option.bind (r02_IsName_g e.Name) (fun iv => (bif (!iv) then some (Sum.inl (Sum.inr (Sum.inl 6))) else (Option.bind ((loopO (fun q => r19_Check_s2 l i e q) 0) : Option (((Int ⊕ (Int ⊕ Unit)) ⊕ Unit) ⊕ Unit)) (Sum.elim (fun q => some q) (fun _ => (bif (decide (e.Thick < 5)) then some (Sum.inl (Sum.inr (Sum.inl 9))) else (bif (decide (300 < e.Thick)) then some (Sum.inl (Sum.inr (Sum.inl 9))) else (bif (decide (e.Width < e.Thick)) then some (Sum.inl (Sum.inr (Sum.inl 9))) else (bif (decide (600 < e.Width)) then some (Sum.inl (Sum.inr (Sum.inl 9))) else (bif (decide (e.Allow < 0)) then some (Sum.inl (Sum.inr (Sum.inl 9))) else (bif (decide (200 < e.Allow)) then some (Sum.inl (Sum.inr (Sum.inl 9))) else (bif (decide (e.Wane < 0)) then some (Sum.inl (Sum.inr (Sum.inl 9))) else (bif (decide (1000 < e.Wane)) then some (Sum.inl (Sum.inr (Sum.inl 9))) else (letB (r19_Green_g e) (fun gv => (bif (decide (600 < gv.2)) then some (Sum.inl (Sum.inr (Sum.inl 9))) else (Option.bind (r19_checkLengths_g e) (fun cv => (bif (cv != 0) then some (Sum.inl (Sum.inr (Sum.inl cv))) else some (Sum.inr ()))))))))))))))))))))))) : Option ((Int ⊕ (Int ⊕ Unit)) ⊕ Unit)) (Sum.elim (fun q => some q) (fun _ => some (Sum.inl (W64 (i + 1)))))) else some (Sum.inr (Sum.inr ())))
/-- sawmill/sawmillref19.Check -/
noncomputable def r19_Check_g (l : (List TProduct)) : Option Int :=
  (bif (decide (16 < ((l.length : Nat) : Int))) then some 4 else (Option.bind ((loopO (fun q => r19_Check_s1 l q) 0) : Option (Int ⊕ Unit)) (Sum.elim (fun q => some q) (fun _ => some 0))))
theorem r19_Check_w (l : (List TProduct)) (r : Int) (h : r19_Check_g l = some r) : Holds Try.prog 32 [((encL encTProduct) l)] [] (I r) [] := by
  unfold r19_Check_g at h
  refine holds_fn Try.func32 rfl Try.ntmps32 rfl rfl rfl (fun lim => ?_)
  refine awp_seq ?_
  refine awp_go hmix ?_
  refine go_run' ttok 1 rfl ?_
  refine go_nil nd ?_
  refine then_norm ?_
  refine awp_seq ?_
  refine awp_seq ?_
  refine awp_go hmix ?_
  refine go_run' ttok 1 rfl ?_
  refine go_lenT encTProduct l ttok rfl rfl rfl rfl rfl rfl ?_
  refine go_run' ttok 1 rfl ?_
  refine go_nil nd ?_
  refine then_norm ?_
  refine awp_cond (b := (decide (16 < ((l.length : Nat) : Int)))) rfl (fun c1 => ?_) (fun c1 => ?_)
  · replace h := of_bif_t h c1
    refine awp_seq ?_
    refine awp_go hmix ?_
    refine go_run' ttok 1 rfl ?_
    refine go_nil nd ?_
    refine then_norm ?_
    refine awp_ret ?_
    refine then_ret ?_
    have e2 := of_some h
    subst e2
    refine ret_ret ?_
    refine fin0 ttok rfl rfl ?_
    exact (wkP_refl _ rfl)
  · replace h := of_bif_f h c1
    refine awp_skip ?_
    refine then_norm ?_
    obtain ⟨y, hx3, h⟩ := of_obind h
    refine awp_seqJ (X := Unit) [] [] (fun _ => []) (fun _ => []) (fun w => Sum.inr w = y) rfl rfl ?_ ?_
    · skip
      refine awp_seq ?_
      refine awp_go hmix ?_
      refine go_run' ttok 1 rfl ?_
      refine go_nil nd ?_
      refine then_norm ?_
      refine awp_block ?_
      refine awp_loopD (X := Int) (Y := (Int ⊕ Unit)) [0] [] (fun q => [(3, (I q))]) (fun q => []) (fun q => r19_Check_s1 l q) 0 [] hx3 ⟨rfl, rfl, rfl, rfl, rfl, ⟨wkP_id _ rfl, trivial⟩, trivial⟩ (fun i vR vz hz5 hk6 => ?_)
      change r19_Check_s1 l i = _ at hz5
      unfold r19_Check_s1 at hz5
      refine awp_seq ?_
      refine awp_seq ?_
      refine awp_go hmix ?_
      refine go_run' ttok 2 rfl ?_
      refine go_lenT encTProduct l ttok rfl rfl rfl rfl rfl rfl ?_
      refine go_run' ttok 1 rfl ?_
      refine go_nil nd ?_
      refine then_norm ?_
      refine awp_cond (b := (decide (i < ((l.length : Nat) : Int)))) rfl (fun c7 => ?_) (fun c7 => ?_)
      · replace hz5 := of_bif_t hz5 c7
        refine awp_skip ?_
        refine then_norm ?_
        obtain ⟨y1, hx8, hz5⟩ := of_obind hz5
        refine awp_seqJ (X := Unit) [0, 3] [] (fun _ => []) (fun _ => []) (fun w1 => Sum.inr w1 = y1) rfl rfl ?_ ?_
        · skip
          refine awp_block ?_
          refine awp_seq ?_
          refine awp_go hmix ?_
          refine go_run' ttok 2 rfl ?_
          obtain ⟨e, hv10, hx8⟩ := of_obind hx8
          refine go_indexT encTProduct l i e hv10 ttok rfl rfl rfl rfl rfl rfl rfl rfl rfl ?_
          refine go_run' ttok 3 rfl ?_
          refine go_nil nd ?_
          refine then_norm ?_
          refine awp_seq ?_
          refine awp_seq ?_
          refine awp_go hmix ?_
          refine go_run' ttok 2 rfl ?_
          obtain ⟨iv, hv11, hx8⟩ := of_obind hx8
          refine go_call fn34 (r02_IsName_w e.Name iv hv11) rfl rfl rfl rfl rfl rfl rfl ?_
          refine go_run' ttok 1 rfl ?_
          refine go_nil nd ?_
          refine then_norm ?_
          refine awp_cond (b := (!iv)) rfl (fun c12 => ?_) (fun c12 => ?_)
          · replace hx8 := of_bif_t hx8 c12
            refine awp_seq ?_
            refine awp_go hmix ?_
            refine go_run' ttok 1 rfl ?_
            refine go_nil nd ?_
            refine then_norm ?_
            refine awp_ret ?_
            refine then_ret ?_
            refine block_ret ?_
            obtain ⟨t, hn13, hq⟩ := of_mapl' hx8
            subst hq
            have hq := of_inl hz5
            replace hq := of_some hq
            subst hq
            refine then_ret ?_
            obtain ⟨t1, hn14, hq⟩ := of_mapr' hn13
            subst hq
            have hq : t1 = _ := hk6
            subst hq
            refine then_ret ?_
            refine block_ret ?_
            obtain ⟨t2, hn15, hq⟩ := of_mapl' hn14
            subst hq
            have hq := of_inl h
            replace hq := of_some hq
            subst hq
            refine then_ret ?_
            have e16 := of_some hn15
            subst e16
            refine ret_ret ?_
            refine fin0 ttok rfl rfl ?_
            exact (wkP_refl _ rfl)
          · replace hx8 := of_bif_f hx8 c12
            refine awp_skip ?_
            refine then_norm ?_
            obtain ⟨y2, hx17, hx8⟩ := of_obind hx8
            refine awp_seqJ (X := Unit) [0, 3, 4] [4] (fun _ => []) (fun _ => []) (fun w2 => Sum.inr w2 = y2) rfl rfl ?_ ?_
            · skip
              refine awp_seq ?_
              refine awp_go hmix ?_
              refine go_run' ttok 1 rfl ?_
              refine go_nil nd ?_
              refine then_norm ?_
              refine awp_block ?_
              refine awp_loopD (X := Int) (Y := (((Int ⊕ (Int ⊕ Unit)) ⊕ Unit) ⊕ Unit)) [0, 3, 4] [4] (fun q => [(5, (I q))]) (fun q => []) (fun q => r19_Check_s2 l i e q) 0 [(4, some 4)] hx17 ⟨rfl, rfl, rfl, rfl, rfl, ⟨wkP_id _ rfl, trivial⟩, trivial⟩ (fun k vR1 vz1 hz19 hk20 => ?_)
              change r19_Check_s2 l i e k = _ at hz19
              unfold r19_Check_s2 at hz19
              refine awp_seq ?_
              refine awp_seq ?_
              refine awp_go hmix ?_
              refine go_run' ttok 3 rfl ?_
              refine go_nil nd ?_
              refine then_norm ?_
              refine awp_cond (b := (decide (k < i))) rfl (fun c21 => ?_) (fun c21 => ?_)
              · replace hz19 := of_bif_t hz19 c21
                refine awp_skip ?_
                refine then_norm ?_
                refine awp_seq ?_
                refine awp_block ?_
                refine awp_seq ?_
                refine awp_go hmix ?_
                refine go_run' ttok 2 rfl ?_
                obtain ⟨e1, hv22, hz19⟩ := of_obind hz19
                refine go_indexT encTProduct l k e1 hv22 ttok rfl rfl rfl rfl rfl rfl rfl rfl rfl ?_
                refine go_run' ttok 4 rfl ?_
                refine go_eqlS e1.Name e.Name rfl rfl rfl rfl rfl ?_
                refine go_nil (fun _ => by kernel_rfl) ?_
                refine then_norm ?_
                refine awp_cond (b := (bEq e1.Name e.Name)) rfl (fun c23 => ?_) (fun c23 => ?_)
                · replace hz19 := of_bif_t hz19 c23
                  refine awp_seq ?_
                  refine awp_go hmix ?_
                  refine go_run' ttok 1 rfl ?_
                  refine go_nil nd ?_
                  refine then_norm ?_
                  refine awp_ret ?_
                  refine block_ret ?_
                  refine then_ret ?_
                  obtain ⟨t3, hn24, hq⟩ := of_mapr' hz19
                  subst hq
                  have hq : t3 = _ := hk20
                  subst hq
                  refine then_ret ?_
                  refine block_ret ?_
                  obtain ⟨t4, hn25, hq⟩ := of_mapl' hn24
                  subst hq
                  have hq := of_inl hx8
                  replace hq := of_some hq
                  subst hq
                  refine then_ret ?_
                  refine block_ret ?_
                  obtain ⟨t5, hn26, hq⟩ := of_mapl' hn25
                  subst hq
                  have hq := of_inl hz5
                  replace hq := of_some hq
                  subst hq
                  refine then_ret ?_
                  obtain ⟨t6, hn27, hq⟩ := of_mapr' hn26
                  subst hq
                  have hq : t6 = _ := hk6
                  subst hq
                  refine then_ret ?_
                  refine block_ret ?_
                  obtain ⟨t7, hn28, hq⟩ := of_mapl' hn27
                  subst hq
                  have hq := of_inl h
                  replace hq := of_some hq
                  subst hq
                  refine then_ret ?_
                  have e29 := of_some hn28
                  subst e29
                  refine ret_ret ?_
                  refine fin0 ttok rfl rfl ?_
                  exact (wkP_refl _ rfl)
                · replace hz19 := of_bif_f hz19 c23
                  refine awp_skip ?_
                  refine block_norm ?_
                  refine then_norm ?_
                  refine awp_go hmix ?_
                  refine go_run' ttok 3 rfl ?_
                  refine go_nil nd ?_
                  have e30 := of_some hz19
                  subst e30
                  refine then_norm ⟨rfl, (W64 (k + 1)), [(4, some 4)], ⟨rfl, rfl, rfl, rfl, rfl, ⟨wkP_id _ rfl, trivial⟩, trivial⟩, hk20⟩
              · replace hz19 := of_bif_f hz19 c21
                refine awp_exit ?_
                refine then_exit ?_
                obtain ⟨t8, hn31, hq⟩ := of_mapr' hz19
                subst hq
                have hq : t8 = _ := hk20
                subst hq
                refine then_exit ?_
                refine block_here ?_
                have e32 := of_some hn31
                refine then_norm ⟨rfl, (), [(4, some 4)], ⟨rfl, rfl, rfl, rfl, rfl, trivial, trivial⟩, e32⟩
            · intro w2 hw18
              subst hw18
              replace hx8 := of_inr hx8
              refine awp_seq ?_
              refine awp_seq ?_
              refine awp_go hmix ?_
              refine go_run' ttok 4 rfl ?_
              refine go_gcase rfl rfl rfl (fun g33 => ?_) (fun g33 => ?_)
              · rw [g33]
                replace hx8 := of_bif_t hx8 g33
                refine go_run' ttok 36 rfl ?_
                refine go_nil nd ?_
                refine then_norm ?_
                refine awp_cond rfl (fun tt0 => ?_) (fun h => by cases h)
                clear tt0
                refine awp_seq ?_
                refine awp_go hmix ?_
                refine go_run' ttok 1 rfl ?_
                refine go_nil nd ?_
                refine then_norm ?_
                refine awp_ret ?_
                refine then_ret ?_
                refine block_ret ?_
                obtain ⟨t9, hn34, hq⟩ := of_mapl' hx8
                subst hq
                have hq := of_inl hz5
                replace hq := of_some hq
                subst hq
                refine then_ret ?_
                obtain ⟨t10, hn35, hq⟩ := of_mapr' hn34
                subst hq
                have hq : t10 = _ := hk6
                subst hq
                refine then_ret ?_
                refine block_ret ?_
                obtain ⟨t11, hn36, hq⟩ := of_mapl' hn35
                subst hq
                have hq := of_inl h
                replace hq := of_some hq
                subst hq
                refine then_ret ?_
                have e37 := of_some hn36
                subst e37
                refine ret_ret ?_
                refine fin0 ttok rfl rfl ?_
                exact (wkP_refl _ rfl)
              · rw [g33]
                replace hx8 := of_bif_f hx8 g33
                refine go_run' ttok 5 rfl ?_
                refine go_gcase rfl rfl rfl (fun g38 => ?_) (fun g38 => ?_)
                · rw [g38]
                  replace hx8 := of_bif_t hx8 g38
                  refine go_run' ttok 31 rfl ?_
                  refine go_nil nd ?_
                  refine then_norm ?_
                  refine awp_cond rfl (fun tt0 => ?_) (fun h => by cases h)
                  clear tt0
                  refine awp_seq ?_
                  refine awp_go hmix ?_
                  refine go_run' ttok 1 rfl ?_
                  refine go_nil nd ?_
                  refine then_norm ?_
                  refine awp_ret ?_
                  refine then_ret ?_
                  refine block_ret ?_
                  obtain ⟨t12, hn39, hq⟩ := of_mapl' hx8
                  subst hq
                  have hq := of_inl hz5
                  replace hq := of_some hq
                  subst hq
                  refine then_ret ?_
                  obtain ⟨t13, hn40, hq⟩ := of_mapr' hn39
                  subst hq
                  have hq : t13 = _ := hk6
                  subst hq
                  refine then_ret ?_
                  refine block_ret ?_
                  obtain ⟨t14, hn41, hq⟩ := of_mapl' hn40
                  subst hq
                  have hq := of_inl h
                  replace hq := of_some hq
                  subst hq
                  refine then_ret ?_
                  have e42 := of_some hn41
                  subst e42
                  refine ret_ret ?_
                  refine fin0 ttok rfl rfl ?_
                  exact (wkP_refl _ rfl)
                · rw [g38]
                  replace hx8 := of_bif_f hx8 g38
                  refine go_run' ttok 7 rfl ?_
                  refine go_gcase rfl rfl rfl (fun g43 => ?_) (fun g43 => ?_)
                  · rw [g43]
                    replace hx8 := of_bif_t hx8 g43
                    refine go_run' ttok 24 rfl ?_
                    refine go_nil nd ?_
                    refine then_norm ?_
                    refine awp_cond rfl (fun tt0 => ?_) (fun h => by cases h)
                    clear tt0
                    refine awp_seq ?_
                    refine awp_go hmix ?_
                    refine go_run' ttok 1 rfl ?_
                    refine go_nil nd ?_
                    refine then_norm ?_
                    refine awp_ret ?_
                    refine then_ret ?_
                    refine block_ret ?_
                    obtain ⟨t15, hn44, hq⟩ := of_mapl' hx8
                    subst hq
                    have hq := of_inl hz5
                    replace hq := of_some hq
                    subst hq
                    refine then_ret ?_
                    obtain ⟨t16, hn45, hq⟩ := of_mapr' hn44
                    subst hq
                    have hq : t16 = _ := hk6
                    subst hq
                    refine then_ret ?_
                    refine block_ret ?_
                    obtain ⟨t17, hn46, hq⟩ := of_mapl' hn45
                    subst hq
                    have hq := of_inl h
                    replace hq := of_some hq
                    subst hq
                    refine then_ret ?_
                    have e47 := of_some hn46
                    subst e47
                    refine ret_ret ?_
                    refine fin0 ttok rfl rfl ?_
                    exact (wkP_refl _ rfl)
                  · rw [g43]
                    replace hx8 := of_bif_f hx8 g43
                    refine go_run' ttok 5 rfl ?_
                    refine go_gcase rfl rfl rfl (fun g48 => ?_) (fun g48 => ?_)
                    · rw [g48]
                      replace hx8 := of_bif_t hx8 g48
                      refine go_run' ttok 19 rfl ?_
                      refine go_nil nd ?_
                      refine then_norm ?_
                      refine awp_cond rfl (fun tt0 => ?_) (fun h => by cases h)
                      clear tt0
                      refine awp_seq ?_
                      refine awp_go hmix ?_
                      refine go_run' ttok 1 rfl ?_
                      refine go_nil nd ?_
                      refine then_norm ?_
                      refine awp_ret ?_
                      refine then_ret ?_
                      refine block_ret ?_
                      obtain ⟨t18, hn49, hq⟩ := of_mapl' hx8
                      subst hq
                      have hq := of_inl hz5
                      replace hq := of_some hq
                      subst hq
                      refine then_ret ?_
                      obtain ⟨t19, hn50, hq⟩ := of_mapr' hn49
                      subst hq
                      have hq : t19 = _ := hk6
                      subst hq
                      refine then_ret ?_
                      refine block_ret ?_
                      obtain ⟨t20, hn51, hq⟩ := of_mapl' hn50
                      subst hq
                      have hq := of_inl h
                      replace hq := of_some hq
                      subst hq
                      refine then_ret ?_
                      have e52 := of_some hn51
                      subst e52
                      refine ret_ret ?_
                      refine fin0 ttok rfl rfl ?_
                      exact (wkP_refl _ rfl)
                    · rw [g48]
                      replace hx8 := of_bif_f hx8 g48
                      refine go_run' ttok 5 rfl ?_
                      refine go_gcase rfl rfl rfl (fun g53 => ?_) (fun g53 => ?_)
                      · rw [g53]
                        replace hx8 := of_bif_t hx8 g53
                        refine go_run' ttok 14 rfl ?_
                        refine go_nil nd ?_
                        refine then_norm ?_
                        refine awp_cond rfl (fun tt0 => ?_) (fun h => by cases h)
                        clear tt0
                        refine awp_seq ?_
                        refine awp_go hmix ?_
                        refine go_run' ttok 1 rfl ?_
                        refine go_nil nd ?_
                        refine then_norm ?_
                        refine awp_ret ?_
                        refine then_ret ?_
                        refine block_ret ?_
                        obtain ⟨t21, hn54, hq⟩ := of_mapl' hx8
                        subst hq
                        have hq := of_inl hz5
                        replace hq := of_some hq
                        subst hq
                        refine then_ret ?_
                        obtain ⟨t22, hn55, hq⟩ := of_mapr' hn54
                        subst hq
                        have hq : t22 = _ := hk6
                        subst hq
                        refine then_ret ?_
                        refine block_ret ?_
                        obtain ⟨t23, hn56, hq⟩ := of_mapl' hn55
                        subst hq
                        have hq := of_inl h
                        replace hq := of_some hq
                        subst hq
                        refine then_ret ?_
                        have e57 := of_some hn56
                        subst e57
                        refine ret_ret ?_
                        refine fin0 ttok rfl rfl ?_
                        exact (wkP_refl _ rfl)
                      · rw [g53]
                        replace hx8 := of_bif_f hx8 g53
                        refine go_run' ttok 5 rfl ?_
                        refine go_gcase rfl rfl rfl (fun g58 => ?_) (fun g58 => ?_)
                        · rw [g58]
                          replace hx8 := of_bif_t hx8 g58
                          refine go_run' ttok 9 rfl ?_
                          refine go_nil nd ?_
                          refine then_norm ?_
                          refine awp_cond rfl (fun tt0 => ?_) (fun h => by cases h)
                          clear tt0
                          refine awp_seq ?_
                          refine awp_go hmix ?_
                          refine go_run' ttok 1 rfl ?_
                          refine go_nil nd ?_
                          refine then_norm ?_
                          refine awp_ret ?_
                          refine then_ret ?_
                          refine block_ret ?_
                          obtain ⟨t24, hn59, hq⟩ := of_mapl' hx8
                          subst hq
                          have hq := of_inl hz5
                          replace hq := of_some hq
                          subst hq
                          refine then_ret ?_
                          obtain ⟨t25, hn60, hq⟩ := of_mapr' hn59
                          subst hq
                          have hq : t25 = _ := hk6
                          subst hq
                          refine then_ret ?_
                          refine block_ret ?_
                          obtain ⟨t26, hn61, hq⟩ := of_mapl' hn60
                          subst hq
                          have hq := of_inl h
                          replace hq := of_some hq
                          subst hq
                          refine then_ret ?_
                          have e62 := of_some hn61
                          subst e62
                          refine ret_ret ?_
                          refine fin0 ttok rfl rfl ?_
                          exact (wkP_refl _ rfl)
                        · rw [g58]
                          replace hx8 := of_bif_f hx8 g58
                          refine go_run' ttok 5 rfl ?_
                          refine go_gcase rfl rfl rfl (fun g63 => ?_) (fun g63 => ?_)
                          · rw [g63]
                            replace hx8 := of_bif_t hx8 g63
                            refine go_run' ttok 4 rfl ?_
                            refine go_nil nd ?_
                            refine then_norm ?_
                            refine awp_cond rfl (fun tt0 => ?_) (fun h => by cases h)
                            clear tt0
                            refine awp_seq ?_
                            refine awp_go hmix ?_
                            refine go_run' ttok 1 rfl ?_
                            refine go_nil nd ?_
                            refine then_norm ?_
                            refine awp_ret ?_
                            refine then_ret ?_
                            refine block_ret ?_
                            obtain ⟨t27, hn64, hq⟩ := of_mapl' hx8
                            subst hq
                            have hq := of_inl hz5
                            replace hq := of_some hq
                            subst hq
                            refine then_ret ?_
                            obtain ⟨t28, hn65, hq⟩ := of_mapr' hn64
                            subst hq
                            have hq : t28 = _ := hk6
                            subst hq
                            refine then_ret ?_
                            refine block_ret ?_
                            obtain ⟨t29, hn66, hq⟩ := of_mapl' hn65
                            subst hq
                            have hq := of_inl h
                            replace hq := of_some hq
                            subst hq
                            refine then_ret ?_
                            have e67 := of_some hn66
                            subst e67
                            refine ret_ret ?_
                            refine fin0 ttok rfl rfl ?_
                            exact (wkP_refl _ rfl)
                          · rw [g63]
                            replace hx8 := of_bif_f hx8 g63
                            refine go_run' ttok 4 rfl ?_
                            refine go_nil nd ?_
                            refine then_norm ?_
                            refine awp_cond (b := (decide (1000 < e.Wane))) rfl (fun c68 => ?_) (fun c68 => ?_)
                            · replace hx8 := of_bif_t hx8 c68
                              refine awp_seq ?_
                              refine awp_go hmix ?_
                              refine go_run' ttok 1 rfl ?_
                              refine go_nil nd ?_
                              refine then_norm ?_
                              refine awp_ret ?_
                              refine then_ret ?_
                              refine block_ret ?_
                              obtain ⟨t30, hn69, hq⟩ := of_mapl' hx8
                              subst hq
                              have hq := of_inl hz5
                              replace hq := of_some hq
                              subst hq
                              refine then_ret ?_
                              obtain ⟨t31, hn70, hq⟩ := of_mapr' hn69
                              subst hq
                              have hq : t31 = _ := hk6
                              subst hq
                              refine then_ret ?_
                              refine block_ret ?_
                              obtain ⟨t32, hn71, hq⟩ := of_mapl' hn70
                              subst hq
                              have hq := of_inl h
                              replace hq := of_some hq
                              subst hq
                              refine then_ret ?_
                              have e72 := of_some hn71
                              subst e72
                              refine ret_ret ?_
                              refine fin0 ttok rfl rfl ?_
                              exact (wkP_refl _ rfl)
                            · replace hx8 := of_bif_f hx8 c68
                              refine awp_skip ?_
                              refine then_norm ?_
                              refine awp_seq ?_
                              refine awp_seq ?_
                              refine awp_go hmix ?_
                              refine go_run' ttok 1 rfl ?_
                              obtain ⟨gv, hv73, hx8⟩ := of_let hx8
                              refine go_call fn60 (r19_Green_w e gv hv73) rfl rfl rfl rfl rfl rfl rfl ?_
                              refine go_run' ttok 5 rfl ?_
                              refine go_nil nd ?_
                              refine then_norm ?_
                              refine awp_seq ?_
                              refine awp_go hmix ?_
                              refine go_run' ttok 2 rfl ?_
                              refine go_nil nd ?_
                              refine then_norm ?_
                              refine awp_cond (b := (decide (600 < gv.2))) rfl (fun c74 => ?_) (fun c74 => ?_)
                              · replace hx8 := of_bif_t hx8 c74
                                refine awp_seq ?_
                                refine awp_go hmix ?_
                                refine go_run' ttok 1 rfl ?_
                                refine go_nil nd ?_
                                refine then_norm ?_
                                refine awp_ret ?_
                                refine then_ret ?_
                                refine block_ret ?_
                                obtain ⟨t33, hn75, hq⟩ := of_mapl' hx8
                                subst hq
                                have hq := of_inl hz5
                                replace hq := of_some hq
                                subst hq
                                refine then_ret ?_
                                obtain ⟨t34, hn76, hq⟩ := of_mapr' hn75
                                subst hq
                                have hq : t34 = _ := hk6
                                subst hq
                                refine then_ret ?_
                                refine block_ret ?_
                                obtain ⟨t35, hn77, hq⟩ := of_mapl' hn76
                                subst hq
                                have hq := of_inl h
                                replace hq := of_some hq
                                subst hq
                                refine then_ret ?_
                                have e78 := of_some hn77
                                subst e78
                                refine ret_ret ?_
                                refine fin0 ttok rfl rfl ?_
                                exact (wkP_refl _ rfl)
                              · replace hx8 := of_bif_f hx8 c74
                                refine awp_skip ?_
                                refine then_norm ?_
                                refine awp_seq ?_
                                refine awp_go hmix ?_
                                refine go_run' ttok 1 rfl ?_
                                obtain ⟨cv, hv79, hx8⟩ := of_obind hx8
                                refine go_call fn61 (r19_checkLengths_w e cv hv79) rfl rfl rfl rfl rfl rfl rfl ?_
                                refine go_run' ttok 1 rfl ?_
                                refine go_nil nd ?_
                                refine then_norm ?_
                                refine awp_seq ?_
                                refine awp_go hmix ?_
                                refine go_run' ttok 2 rfl ?_
                                refine go_nil nd ?_
                                refine then_norm ?_
                                refine awp_cond (b := (cv != 0)) rfl (fun c80 => ?_) (fun c80 => ?_)
                                · replace hx8 := of_bif_t hx8 c80
                                  refine awp_seq ?_
                                  refine awp_go hmix ?_
                                  refine go_run' ttok 2 rfl ?_
                                  refine go_nil nd ?_
                                  refine then_norm ?_
                                  refine awp_ret ?_
                                  refine block_ret ?_
                                  obtain ⟨t36, hn81, hq⟩ := of_mapl' hx8
                                  subst hq
                                  have hq := of_inl hz5
                                  replace hq := of_some hq
                                  subst hq
                                  refine then_ret ?_
                                  obtain ⟨t37, hn82, hq⟩ := of_mapr' hn81
                                  subst hq
                                  have hq : t37 = _ := hk6
                                  subst hq
                                  refine then_ret ?_
                                  refine block_ret ?_
                                  obtain ⟨t38, hn83, hq⟩ := of_mapl' hn82
                                  subst hq
                                  have hq := of_inl h
                                  replace hq := of_some hq
                                  subst hq
                                  refine then_ret ?_
                                  have e84 := of_some hn83
                                  subst e84
                                  refine ret_ret ?_
                                  refine fin0 ttok rfl rfl ?_
                                  exact (wkP_refl _ rfl)
                                · replace hx8 := of_bif_f hx8 c80
                                  refine awp_skip ?_
                                  refine block_norm ?_
                                  have e85 := of_some hx8
                                  refine then_norm ⟨rfl, (), [], ⟨rfl, rfl, rfl, rfl, rfl, trivial, trivial⟩, e85⟩
        · intro w1 hw9
          subst hw9
          replace hz5 := of_inr hz5
          refine awp_go hmix ?_
          refine go_run' ttok 3 rfl ?_
          refine go_nil nd ?_
          have e86 := of_some hz5
          subst e86
          refine then_norm ⟨rfl, (W64 (i + 1)), [], ⟨rfl, rfl, rfl, rfl, rfl, ⟨wkP_id _ rfl, trivial⟩, trivial⟩, hk6⟩
      · replace hz5 := of_bif_f hz5 c7
        refine awp_exit ?_
        refine then_exit ?_
        obtain ⟨t39, hn87, hq⟩ := of_mapr' hz5
        subst hq
        have hq : t39 = _ := hk6
        subst hq
        refine then_exit ?_
        refine block_here ?_
        have e88 := of_some hn87
        refine then_norm ⟨rfl, (), [], ⟨rfl, rfl, rfl, rfl, rfl, trivial, trivial⟩, e88⟩
    · intro w hw4
      subst hw4
      replace h := of_inr h
      refine awp_seq ?_
      refine awp_go hmix ?_
      refine go_run' ttok 1 rfl ?_
      refine go_nil nd ?_
      refine then_norm ?_
      refine awp_ret ?_
      have e89 := of_some h
      subst e89
      refine ret_ret ?_
      refine fin0 ttok rfl rfl ?_
      exact (wkP_refl _ rfl)

/-- sawmill/sawmillref02.capital -/
noncomputable def r02_capital_g (c : Int) : Bool :=
  (bif (decide (65 ≤ c)) then (decide (c ≤ 90)) else false)
theorem r02_capital_w (c : Int) (r : Bool) (h : r02_capital_g c = r) : Holds Try.prog 90 [(U8 c)] [] (B r) [] := by
  unfold r02_capital_g at h
  refine holds_fn Try.func90 rfl Try.ntmps90 rfl rfl rfl (fun lim => ?_)
  refine awp_seq ?_
  refine awp_go hmix ?_
  refine go_run' ttok 1 rfl ?_
  refine go_nil nd ?_
  refine then_norm ?_
  refine awp_seq ?_
  refine awp_go hmix ?_
  refine go_run' ttok 3 rfl ?_
  refine go_gcase rfl rfl rfl (fun g1 => ?_) (fun g1 => ?_)
  · rw [g1]
    replace h := of_bif_t h g1
    refine go_run' ttok 4 rfl ?_
    refine go_nil nd ?_
    refine then_norm ?_
    refine awp_ret ?_
    have e2 := h
    subst e2
    refine ret_ret ?_
    refine fin0 ttok rfl rfl ?_
    exact (wkP_refl _ rfl)
  · rw [g1]
    replace h := of_bif_f h g1
    refine go_run' ttok 4 rfl ?_
    refine go_nil nd ?_
    refine then_norm ?_
    refine awp_ret ?_
    have e3 := h
    subst e3
    refine ret_ret ?_
    refine fin0 ttok rfl rfl ?_
    exact (wkP_refl _ rfl)

noncomputable def r02_Letter_s1 (s : ByteArray) (m1 : Int) (i : Int) : Option ((Int × Int) ⊕ Int) :=
  (bif (decide (i < ((s.size : Nat) : Int))) then (Option.bind (bytO s i) (fun c => some (Sum.inl ((Int.tmod (W64 (m1 + (W64 ((Int.tmod (W64 (i + 1)) 23) * (W64 c))))) 23), (W64 (i + 1)))))) else some (Sum.inr m1))
/-- sawmill/sawmillref02.Letter -/
noncomputable def r02_Letter_g (s : ByteArray) : Option Int :=
  (Option.bind ((loopO (fun q => r02_Letter_s1 s q.1 q.2) (0, 0)) : Option Int) (fun m => some (WU8 (W64 (65 + m)))))
theorem r02_Letter_w (s : ByteArray) (r : Int) (h : r02_Letter_g s = some r) : Holds Try.prog 91 [(S s)] [] (U8 r) [] := by
  unfold r02_Letter_g at h
  refine holds_fn Try.func91 rfl Try.ntmps91 rfl rfl rfl (fun lim => ?_)
  refine awp_seq ?_
  refine awp_go hmix ?_
  refine go_run' ttok 1 rfl ?_
  refine go_nil nd ?_
  refine then_norm ?_
  refine awp_seq ?_
  refine awp_go hmix ?_
  refine go_run' ttok 1 rfl ?_
  refine go_nil nd ?_
  refine then_norm ?_
  obtain ⟨y, hx1, h⟩ := of_obind h
  refine awp_seqJ (X := Int) [] [] (fun w => [(3, (I w))]) (fun w => []) (fun w => w = y) rfl rfl ?_ ?_
  · skip
    refine awp_seq ?_
    refine awp_go hmix ?_
    refine go_run' ttok 1 rfl ?_
    refine go_nil nd ?_
    refine then_norm ?_
    refine awp_block ?_
    refine awp_loopD (X := (Int × Int)) (Y := Int) [0] [] (fun q => [(3, (I q.1)), (4, (I q.2))]) (fun q => []) (fun q => r02_Letter_s1 s q.1 q.2) (0, 0) [] hx1 ⟨rfl, rfl, rfl, rfl, rfl, ⟨wkP_id _ rfl, wkP_id _ rfl, trivial⟩, trivial⟩ (fun x vR vz hz3 hk4 => ?_)
    obtain ⟨m1, i⟩ := x
    change r02_Letter_s1 s m1 i = _ at hz3
    unfold r02_Letter_s1 at hz3
    refine awp_seq ?_
    refine awp_seq ?_
    refine awp_go hmix ?_
    refine go_run' ttok 4 rfl ?_
    refine go_nil nd ?_
    refine then_norm ?_
    refine awp_cond (b := (decide (i < ((s.size : Nat) : Int)))) rfl (fun c5 => ?_) (fun c5 => ?_)
    · replace hz3 := of_bif_t hz3 c5
      refine awp_skip ?_
      refine then_norm ?_
      refine awp_seq ?_
      refine awp_block ?_
      refine awp_go hmix ?_
      refine go_run' ttok 6 rfl ?_
      obtain ⟨c, hv6, hz3⟩ := of_obind hz3
      refine go_indexB s i c hv6 ttok rfl rfl rfl rfl rfl rfl rfl ?_
      refine go_run' ttok 5 rfl ?_
      refine go_nil nd ?_
      refine block_norm ?_
      refine then_norm ?_
      refine awp_go hmix ?_
      refine go_run' ttok 3 rfl ?_
      refine go_nil nd ?_
      have e7 := of_some hz3
      subst e7
      refine then_norm ⟨rfl, ((Int.tmod (W64 (m1 + (W64 ((Int.tmod (W64 (i + 1)) 23) * (W64 c))))) 23), (W64 (i + 1))), [], ⟨rfl, rfl, rfl, rfl, rfl, ⟨wkP_id _ rfl, wkP_id _ rfl, trivial⟩, trivial⟩, hk4⟩
    · replace hz3 := of_bif_f hz3 c5
      refine awp_exit ?_
      refine then_exit ?_
      obtain ⟨t, hn8, hq⟩ := of_mapr' hz3
      subst hq
      have hq : t = _ := hk4
      subst hq
      refine then_exit ?_
      refine block_here ?_
      have e9 := of_some hn8
      refine then_norm ⟨rfl, m1, [], ⟨rfl, rfl, rfl, rfl, rfl, ⟨wkP_id _ rfl, trivial⟩, trivial⟩, e9⟩
  · intro m hw2
    subst hw2
    refine awp_seq ?_
    refine awp_go hmix ?_
    refine go_run' ttok 4 rfl ?_
    refine go_nil nd ?_
    refine then_norm ?_
    refine awp_ret ?_
    have e10 := of_some h
    subst e10
    refine ret_ret ?_
    refine fin0 ttok rfl rfl ?_
    exact (wkP_refl _ rfl)

noncomputable def r02_Split_s1 (s : ByteArray) (n1 : Int) (i : Int) : Option ((Int × Int) ⊕ ((Int × Int × Int) ⊕ Int)) :=
  (bif (decide (i < 7)) then (Option.bind (bytO s i) (fun c1 => (bif (!(r02_digit_g c1)) then some (Sum.inr (Sum.inl (0, 0, 5))) else (Option.bind (bytO s i) (fun c2 => some (Sum.inl ((W64 ((W64 (10 * n1)) + (W64 (WU8 (c2 - 48))))), (W64 (i + 1))))))))) else some (Sum.inr (Sum.inr n1)))
/-- sawmill/sawmillref02.Split -/
noncomputable def r02_Split_g (s : ByteArray) : Option (Int × Int × Int) :=
  (bif (((s.size : Nat) : Int) != 8) then some (0, 0, 3) else (Option.bind (bytO s 0) (fun c => (bif (!(r02_capital_g c)) then some (0, 0, 10) else (Option.bind ((loopO (fun q => r02_Split_s1 s q.1 q.2) (0, 1)) : Option ((Int × Int × Int) ⊕ Int)) (Sum.elim (fun q => some q) (fun n => (Option.bind (bytO s 7) (fun c3 => (Option.bind (ssubO s 0 7) (fun t3 => (Option.bind (r02_Letter_g t3) (fun lv => (bif (c3 != lv) then some (0, 0, 16) else (Option.bind (bytO s 0) (fun c4 => some (c4, n, 0)))))))))))))))))
theorem r02_Split_w (s : ByteArray) (r : (Int × Int × Int)) (h : r02_Split_g s = some r) : Holds Try.prog 62 [(S s)] [] (.tup [(U8 r.1), (I r.2.1), (I r.2.2)]) [] := by
  unfold r02_Split_g at h
  refine holds_fn Try.func62 rfl Try.ntmps62 rfl rfl rfl (fun lim => ?_)
  refine awp_seq ?_
  refine awp_go hmix ?_
  refine go_run' ttok 3 rfl ?_
  refine go_nil nd ?_
  refine then_norm ?_
  refine awp_seq ?_
  refine awp_seq ?_
  refine awp_go hmix ?_
  refine go_run' ttok 3 rfl ?_
  refine go_nil nd ?_
  refine then_norm ?_
  refine awp_cond (b := (((s.size : Nat) : Int) != 8)) rfl (fun c1 => ?_) (fun c1 => ?_)
  · replace h := of_bif_t h c1
    refine awp_seq ?_
    refine awp_go hmix ?_
    refine go_run' ttok 3 rfl ?_
    refine go_nil nd ?_
    refine then_norm ?_
    refine awp_ret ?_
    refine then_ret ?_
    have e2 := of_some h
    subst e2
    refine ret_ret ?_
    refine fin0 ttok rfl rfl ?_
    exact wkP_refl _ rfl
  · replace h := of_bif_f h c1
    refine awp_skip ?_
    refine then_norm ?_
    refine awp_seq ?_
    refine awp_seq ?_
    refine awp_go hmix ?_
    refine go_run' ttok 1 rfl ?_
    obtain ⟨c, hv3, h⟩ := of_obind h
    refine go_indexB s 0 c hv3 ttok rfl rfl rfl rfl rfl rfl rfl ?_
    refine go_call fn90 (r02_capital_w c _ rfl) rfl rfl rfl rfl rfl rfl rfl ?_
    refine go_run' ttok 1 rfl ?_
    refine go_nil nd ?_
    refine then_norm ?_
    refine awp_cond (b := (!(r02_capital_g c))) rfl (fun c4 => ?_) (fun c4 => ?_)
    · replace h := of_bif_t h c4
      refine awp_seq ?_
      refine awp_go hmix ?_
      refine go_run' ttok 3 rfl ?_
      refine go_nil nd ?_
      refine then_norm ?_
      refine awp_ret ?_
      refine then_ret ?_
      have e5 := of_some h
      subst e5
      refine ret_ret ?_
      refine fin0 ttok rfl rfl ?_
      exact wkP_refl _ rfl
    · replace h := of_bif_f h c4
      refine awp_skip ?_
      refine then_norm ?_
      refine awp_seq ?_
      refine awp_go hmix ?_
      refine go_run' ttok 1 rfl ?_
      refine go_nil nd ?_
      refine then_norm ?_
      obtain ⟨y, hx6, h⟩ := of_obind h
      refine awp_seqJ (X := Int) [0] [] (fun w => [(5, (I w))]) (fun w => []) (fun w => Sum.inr w = y) rfl rfl ?_ ?_
      · skip
        refine awp_seq ?_
        refine awp_go hmix ?_
        refine go_run' ttok 1 rfl ?_
        refine go_nil nd ?_
        refine then_norm ?_
        refine awp_block ?_
        refine awp_loopD (X := (Int × Int)) (Y := ((Int × Int × Int) ⊕ Int)) [0] [] (fun q => [(5, (I q.1)), (6, (I q.2))]) (fun q => []) (fun q => r02_Split_s1 s q.1 q.2) (0, 1) [] hx6 ⟨rfl, rfl, rfl, rfl, rfl, ⟨wkP_id _ rfl, wkP_id _ rfl, trivial⟩, trivial⟩ (fun x vR vz hz8 hk9 => ?_)
        obtain ⟨n1, i⟩ := x
        change r02_Split_s1 s n1 i = _ at hz8
        unfold r02_Split_s1 at hz8
        refine awp_seq ?_
        refine awp_seq ?_
        refine awp_go hmix ?_
        refine go_run' ttok 2 rfl ?_
        refine go_nil nd ?_
        refine then_norm ?_
        refine awp_cond (b := (decide (i < 7))) rfl (fun c10 => ?_) (fun c10 => ?_)
        · replace hz8 := of_bif_t hz8 c10
          refine awp_skip ?_
          refine then_norm ?_
          refine awp_seq ?_
          refine awp_block ?_
          refine awp_seq ?_
          refine awp_seq ?_
          refine awp_go hmix ?_
          refine go_run' ttok 2 rfl ?_
          obtain ⟨c1, hv11, hz8⟩ := of_obind hz8
          refine go_indexB s i c1 hv11 ttok rfl rfl rfl rfl rfl rfl rfl ?_
          refine go_call fn63 (r02_digit_w c1 _ rfl) rfl rfl rfl rfl rfl rfl rfl ?_
          refine go_run' ttok 1 rfl ?_
          refine go_nil nd ?_
          refine then_norm ?_
          refine awp_cond (b := (!(r02_digit_g c1))) rfl (fun c12 => ?_) (fun c12 => ?_)
          · replace hz8 := of_bif_t hz8 c12
            refine awp_seq ?_
            refine awp_go hmix ?_
            refine go_run' ttok 3 rfl ?_
            refine go_nil nd ?_
            refine then_norm ?_
            refine awp_ret ?_
            refine then_ret ?_
            refine block_ret ?_
            refine then_ret ?_
            obtain ⟨t, hn13, hq⟩ := of_mapr' hz8
            subst hq
            have hq : t = _ := hk9
            subst hq
            refine then_ret ?_
            refine block_ret ?_
            obtain ⟨t1, hn14, hq⟩ := of_mapl' hn13
            subst hq
            have hq := of_inl h
            replace hq := of_some hq
            subst hq
            refine then_ret ?_
            have e15 := of_some hn14
            subst e15
            refine ret_ret ?_
            refine fin0 ttok rfl rfl ?_
            exact wkP_refl _ rfl
          · replace hz8 := of_bif_f hz8 c12
            refine awp_skip ?_
            refine then_norm ?_
            refine awp_go hmix ?_
            refine go_run' ttok 4 rfl ?_
            obtain ⟨c2, hv16, hz8⟩ := of_obind hz8
            refine go_indexB s i c2 hv16 ttok rfl rfl rfl rfl rfl rfl rfl ?_
            refine go_run' ttok 4 rfl ?_
            refine go_nil nd ?_
            refine block_norm ?_
            refine then_norm ?_
            refine awp_go hmix ?_
            refine go_run' ttok 3 rfl ?_
            refine go_nil nd ?_
            have e17 := of_some hz8
            subst e17
            refine then_norm ⟨rfl, ((W64 ((W64 (10 * n1)) + (W64 (WU8 (c2 - 48))))), (W64 (i + 1))), [], ⟨rfl, rfl, rfl, rfl, rfl, ⟨wkP_id _ rfl, wkP_id _ rfl, trivial⟩, trivial⟩, hk9⟩
        · replace hz8 := of_bif_f hz8 c10
          refine awp_exit ?_
          refine then_exit ?_
          obtain ⟨t2, hn18, hq⟩ := of_mapr' hz8
          subst hq
          have hq : t2 = _ := hk9
          subst hq
          refine then_exit ?_
          refine block_here ?_
          have e19 := of_some hn18
          refine then_norm ⟨rfl, n1, [], ⟨rfl, rfl, rfl, rfl, rfl, ⟨wkP_id _ rfl, trivial⟩, trivial⟩, e19⟩
      · intro n hw7
        subst hw7
        replace h := of_inr h
        refine awp_seq ?_
        refine awp_seq ?_
        refine awp_go hmix ?_
        refine go_run' ttok 1 rfl ?_
        obtain ⟨c3, hv20, h⟩ := of_obind h
        refine go_indexB s 7 c3 hv20 ttok rfl rfl rfl rfl rfl rfl rfl ?_
        refine go_run' ttok 1 rfl ?_
        obtain ⟨t3, hv21, h⟩ := of_obind h
        refine go_sliceS s t3 0 7 hv21 ttok rfl rfl rfl rfl rfl rfl ⟨_, rfl⟩ rfl ?_
        obtain ⟨lv, hv22, h⟩ := of_obind h
        refine go_call fn91 (r02_Letter_w t3 lv hv22) rfl rfl rfl rfl rfl rfl rfl ?_
        refine go_run' ttok 1 rfl ?_
        refine go_nil (fun _ => by kernel_rfl) ?_
        refine then_norm ?_
        refine awp_cond (b := (c3 != lv)) rfl (fun c23 => ?_) (fun c23 => ?_)
        · replace h := of_bif_t h c23
          refine awp_seq ?_
          refine awp_go hmix ?_
          refine go_run' ttok 3 rfl ?_
          refine go_nil nd ?_
          refine then_norm ?_
          refine awp_ret ?_
          refine then_ret ?_
          have e24 := of_some h
          subst e24
          refine ret_ret ?_
          refine fin0 ttok rfl rfl ?_
          exact wkP_refl _ rfl
        · replace h := of_bif_f h c23
          refine awp_skip ?_
          refine then_norm ?_
          refine awp_seq ?_
          refine awp_go hmix ?_
          refine go_run' ttok 1 rfl ?_
          obtain ⟨c4, hv25, h⟩ := of_obind h
          refine go_indexB s 0 c4 hv25 ttok rfl rfl rfl rfl rfl rfl rfl ?_
          refine go_run' ttok 4 rfl ?_
          refine go_nil nd ?_
          refine then_norm ?_
          refine awp_ret ?_
          have e26 := of_some h
          subst e26
          refine ret_ret ?_
          refine fin0 ttok rfl rfl ?_
          exact wkP_refl _ rfl

/-- sawmill/sawmillref02.Is -/
noncomputable def r02_Is_g (s : ByteArray) (kind : Int) : Option Bool :=
  (Option.bind (r02_Split_g s) (fun sv => (bif (sv.2.2 == 0) then some (sv.1 == kind) else some false)))
theorem r02_Is_w (s : ByteArray) (kind : Int) (r : Bool) (h : r02_Is_g s kind = some r) : Holds Try.prog 33 [(S s), (U8 kind)] [] (B r) [] := by
  unfold r02_Is_g at h
  refine holds_fn Try.func33 rfl Try.ntmps33 rfl rfl rfl (fun lim => ?_)
  refine awp_seq ?_
  refine awp_go hmix ?_
  refine go_run' ttok 1 rfl ?_
  refine go_nil nd ?_
  refine then_norm ?_
  refine awp_seq ?_
  refine awp_go hmix ?_
  refine go_run' ttok 1 rfl ?_
  obtain ⟨sv, hv1, h⟩ := of_obind h
  refine go_call fn62 (r02_Split_w s sv hv1) rfl rfl rfl rfl rfl rfl rfl ?_
  refine go_run' ttok 7 rfl ?_
  refine go_nil nd ?_
  refine then_norm ?_
  refine awp_seq ?_
  refine awp_go hmix ?_
  refine go_run' ttok 3 rfl ?_
  refine go_gcase rfl rfl rfl (fun g2 => ?_) (fun g2 => ?_)
  · rw [g2]
    replace h := of_bif_t h g2
    refine go_run' ttok 5 rfl ?_
    refine go_nil nd ?_
    refine then_norm ?_
    refine awp_ret ?_
    have e3 := of_some h
    subst e3
    refine ret_ret ?_
    refine fin0 ttok rfl rfl ?_
    exact (wkP_refl _ rfl)
  · rw [g2]
    replace h := of_bif_f h g2
    refine go_run' ttok 5 rfl ?_
    refine go_nil nd ?_
    refine then_norm ?_
    refine awp_ret ?_
    have e4 := of_some h
    subst e4
    refine ret_ret ?_
    refine fin0 ttok rfl rfl ?_
    exact (wkP_refl _ rfl)

noncomputable def r46_has_s1 (l : (List Int)) (n : Int) (i : Int) : Option (Int ⊕ (Bool ⊕ Unit)) :=
  (bif (decide (i < ((l.length : Nat) : Int))) then (Option.bind (getI l i) (fun e => (bif (e == n) then some (Sum.inr (Sum.inl true)) else some (Sum.inl (W64 (i + 1)))))) else some (Sum.inr (Sum.inr ())))
/-- sawmill/sawmillref46.has -/
noncomputable def r46_has_g (l : (List Int)) (n : Int) : Option Bool :=
  (Option.bind ((loopO (fun q => r46_has_s1 l n q) 0) : Option (Bool ⊕ Unit)) (Sum.elim (fun q => some q) (fun _ => some false)))
theorem r46_has_w (l : (List Int)) (n : Int) (r : Bool) (h : r46_has_g l n = some r) : Holds Try.prog 35 [((encL I) l), (I n)] [] (B r) [] := by
  unfold r46_has_g at h
  refine holds_fn Try.func35 rfl Try.ntmps35 rfl rfl rfl (fun lim => ?_)
  refine awp_seq ?_
  refine awp_go hmix ?_
  refine go_run' ttok 1 rfl ?_
  refine go_nil nd ?_
  refine then_norm ?_
  obtain ⟨y, hx1, h⟩ := of_obind h
  refine awp_seqJ (X := Unit) [] [] (fun _ => []) (fun _ => []) (fun w => Sum.inr w = y) rfl rfl ?_ ?_
  · skip
    refine awp_seq ?_
    refine awp_go hmix ?_
    refine go_run' ttok 1 rfl ?_
    refine go_nil nd ?_
    refine then_norm ?_
    refine awp_block ?_
    refine awp_loopD (X := Int) (Y := (Bool ⊕ Unit)) [0, 1] [] (fun q => [(5, (I q))]) (fun q => []) (fun q => r46_has_s1 l n q) 0 [] hx1 ⟨rfl, rfl, rfl, rfl, rfl, ⟨wkP_id _ rfl, trivial⟩, trivial⟩ (fun i vR vz hz3 hk4 => ?_)
    change r46_has_s1 l n i = _ at hz3
    unfold r46_has_s1 at hz3
    refine awp_seq ?_
    refine awp_seq ?_
    refine awp_go hmix ?_
    refine go_run' ttok 2 rfl ?_
    refine go_lenT I l ttok rfl rfl rfl rfl rfl rfl ?_
    refine go_run' ttok 1 rfl ?_
    refine go_nil nd ?_
    refine then_norm ?_
    refine awp_cond (b := (decide (i < ((l.length : Nat) : Int)))) rfl (fun c5 => ?_) (fun c5 => ?_)
    · replace hz3 := of_bif_t hz3 c5
      refine awp_skip ?_
      refine then_norm ?_
      refine awp_seq ?_
      refine awp_block ?_
      refine awp_seq ?_
      refine awp_go hmix ?_
      refine go_run' ttok 2 rfl ?_
      obtain ⟨e, hv6, hz3⟩ := of_obind hz3
      refine go_indexT I l i e hv6 ttok rfl rfl rfl rfl rfl rfl rfl rfl rfl ?_
      refine go_run' ttok 3 rfl ?_
      refine go_nil nd ?_
      refine then_norm ?_
      refine awp_cond (b := (e == n)) rfl (fun c7 => ?_) (fun c7 => ?_)
      · replace hz3 := of_bif_t hz3 c7
        refine awp_seq ?_
        refine awp_go hmix ?_
        refine go_run' ttok 1 rfl ?_
        refine go_nil nd ?_
        refine then_norm ?_
        refine awp_ret ?_
        refine block_ret ?_
        refine then_ret ?_
        obtain ⟨t, hn8, hq⟩ := of_mapr' hz3
        subst hq
        have hq : t = _ := hk4
        subst hq
        refine then_ret ?_
        refine block_ret ?_
        obtain ⟨t1, hn9, hq⟩ := of_mapl' hn8
        subst hq
        have hq := of_inl h
        replace hq := of_some hq
        subst hq
        refine then_ret ?_
        have e10 := of_some hn9
        subst e10
        refine ret_ret ?_
        refine fin0 ttok rfl rfl ?_
        exact (wkP_refl _ rfl)
      · replace hz3 := of_bif_f hz3 c7
        refine awp_skip ?_
        refine block_norm ?_
        refine then_norm ?_
        refine awp_go hmix ?_
        refine go_run' ttok 3 rfl ?_
        refine go_nil nd ?_
        have e11 := of_some hz3
        subst e11
        refine then_norm ⟨rfl, (W64 (i + 1)), [], ⟨rfl, rfl, rfl, rfl, rfl, ⟨wkP_id _ rfl, trivial⟩, trivial⟩, hk4⟩
    · replace hz3 := of_bif_f hz3 c5
      refine awp_exit ?_
      refine then_exit ?_
      obtain ⟨t2, hn12, hq⟩ := of_mapr' hz3
      subst hq
      have hq : t2 = _ := hk4
      subst hq
      refine then_exit ?_
      refine block_here ?_
      have e13 := of_some hn12
      refine then_norm ⟨rfl, (), [], ⟨rfl, rfl, rfl, rfl, rfl, trivial, trivial⟩, e13⟩
  · intro w hw2
    subst hw2
    replace h := of_inr h
    refine awp_seq ?_
    refine awp_go hmix ?_
    refine go_run' ttok 1 rfl ?_
    refine go_nil nd ?_
    refine then_norm ?_
    refine awp_ret ?_
    have e14 := of_some h
    subst e14
    refine ret_ret ?_
    refine fin0 ttok rfl rfl ?_
    exact (wkP_refl _ rfl)

/-- sawmill/sawmillref46.Sound -/
noncomputable def r46_Sound_g (o : TOrder) : Bool :=
  (bif (decide (1 ≤ o.Want)) then (bif (decide (o.Want ≤ 200)) then (bif (decide (0 ≤ o.Minus)) then (bif (decide (o.Minus < o.Want)) then (bif (decide (0 ≤ o.Plus)) then (decide (o.Plus ≤ (W64 (200 - o.Want)))) else false) else false) else false) else false) else false)
theorem r46_Sound_w (o : TOrder) (r : Bool) (h : r46_Sound_g o = r) : Holds Try.prog 36 [(encTOrder o)] [] (B r) [] := by
  unfold r46_Sound_g at h
  refine holds_fn Try.func36 rfl Try.ntmps36 rfl rfl rfl (fun lim => ?_)
  refine awp_seq ?_
  refine awp_go hmix ?_
  refine go_run' ttok 2 rfl ?_
  refine go_nil nd ?_
  refine then_norm ?_
  refine awp_seq ?_
  refine awp_go hmix ?_
  refine go_run' ttok 4 rfl ?_
  refine go_gcase rfl rfl rfl (fun g1 => ?_) (fun g1 => ?_)
  · rw [g1]
    replace h := of_bif_t h g1
    refine go_run' ttok 5 rfl ?_
    refine go_gcase rfl rfl rfl (fun g2 => ?_) (fun g2 => ?_)
    · rw [g2]
      replace h := of_bif_t h g2
      refine go_run' ttok 5 rfl ?_
      refine go_gcase rfl rfl rfl (fun g3 => ?_) (fun g3 => ?_)
      · rw [g3]
        replace h := of_bif_t h g3
        refine go_run' ttok 7 rfl ?_
        refine go_gcase rfl rfl rfl (fun g4 => ?_) (fun g4 => ?_)
        · rw [g4]
          replace h := of_bif_t h g4
          refine go_run' ttok 5 rfl ?_
          refine go_gcase rfl rfl rfl (fun g5 => ?_) (fun g5 => ?_)
          · rw [g5]
            replace h := of_bif_t h g5
            refine go_run' ttok 8 rfl ?_
            refine go_nil nd ?_
            refine then_norm ?_
            refine awp_ret ?_
            have e6 := h
            subst e6
            refine ret_ret ?_
            refine fin0 ttok rfl rfl ?_
            exact (wkP_refl _ rfl)
          · rw [g5]
            replace h := of_bif_f h g5
            refine go_run' ttok 8 rfl ?_
            refine go_nil nd ?_
            refine then_norm ?_
            refine awp_ret ?_
            have e7 := h
            subst e7
            refine ret_ret ?_
            refine fin0 ttok rfl rfl ?_
            exact (wkP_refl _ rfl)
        · rw [g4]
          replace h := of_bif_f h g4
          refine go_run' ttok 13 rfl ?_
          refine go_nil nd ?_
          refine then_norm ?_
          refine awp_ret ?_
          have e8 := h
          subst e8
          refine ret_ret ?_
          refine fin0 ttok rfl rfl ?_
          exact (wkP_refl _ rfl)
      · rw [g3]
        replace h := of_bif_f h g3
        refine go_run' ttok 20 rfl ?_
        refine go_nil nd ?_
        refine then_norm ?_
        refine awp_ret ?_
        have e9 := h
        subst e9
        refine ret_ret ?_
        refine fin0 ttok rfl rfl ?_
        exact (wkP_refl _ rfl)
    · rw [g2]
      replace h := of_bif_f h g2
      refine go_run' ttok 25 rfl ?_
      refine go_nil nd ?_
      refine then_norm ?_
      refine awp_ret ?_
      have e10 := h
      subst e10
      refine ret_ret ?_
      refine fin0 ttok rfl rfl ?_
      exact (wkP_refl _ rfl)
  · rw [g1]
    replace h := of_bif_f h g1
    refine go_run' ttok 30 rfl ?_
    refine go_nil nd ?_
    refine then_norm ?_
    refine awp_ret ?_
    have e11 := h
    subst e11
    refine ret_ret ?_
    refine fin0 ttok rfl rfl ?_
    exact (wkP_refl _ rfl)

/-- sawmill/sawmillref46.Check -/
noncomputable def r46_Check_g (o : TOrder) (c : (List TProduct)) : Option Int :=
  (Option.bind (r19_Check_g c) (fun cv => (bif (cv != 0) then some cv else (Option.bind (r02_Is_g o.Id 79) (fun iv => (bif (!iv) then some 6 else (Option.bind (r02_IsName_g o.Species) (fun iv1 => (bif (!iv1) then some 6 else (bif (decide (o.Product < 0)) then some 8 else (bif (decide (((c.length : Nat) : Int) ≤ o.Product)) then some 8 else (Option.bind (getI c o.Product) (fun e => (Option.bind (r46_has_g e.Lengths o.Length) (fun hv => (bif (!hv) then some 20 else (bif (decide (o.Grade < 1)) then some 26 else (bif (decide (9 < o.Grade)) then some 26 else (bif (decide (o.Moist < 0)) then some 25 else (bif (decide (20000 < o.Moist)) then some 25 else (bif (!(r46_Sound_g o)) then some 9 else (bif (decide (o.Price < 0)) then some 9 else (bif (decide (1000000000 < o.Price)) then some 9 else (bif (decide (o.Due < 0)) then some 9 else (bif (decide (10000000 < o.Due)) then some 9 else some 0)))))))))))))))))))))))))
theorem r46_Check_w (o : TOrder) (c : (List TProduct)) (r : Int) (h : r46_Check_g o c = some r) : Holds Try.prog 13 [(encTOrder o), ((encL encTProduct) c)] [] (I r) [] := by
  unfold r46_Check_g at h
  refine holds_fn Try.func13 rfl Try.ntmps13 rfl rfl rfl (fun lim => ?_)
  refine awp_seq ?_
  refine awp_go hmix ?_
  refine go_run' ttok 2 rfl ?_
  refine go_nil nd ?_
  refine then_norm ?_
  refine awp_seq ?_
  refine awp_seq ?_
  refine awp_go hmix ?_
  refine go_run' ttok 1 rfl ?_
  obtain ⟨cv, hv1, h⟩ := of_obind h
  refine go_call fn32 (r19_Check_w c cv hv1) rfl rfl rfl rfl rfl rfl rfl ?_
  refine go_run' ttok 1 rfl ?_
  refine go_nil nd ?_
  refine then_norm ?_
  refine awp_seq ?_
  refine awp_go hmix ?_
  refine go_run' ttok 2 rfl ?_
  refine go_nil nd ?_
  refine then_norm ?_
  refine awp_cond (b := (cv != 0)) rfl (fun c2 => ?_) (fun c2 => ?_)
  · replace h := of_bif_t h c2
    refine awp_seq ?_
    refine awp_go hmix ?_
    refine go_run' ttok 2 rfl ?_
    refine go_nil nd ?_
    refine then_norm ?_
    refine awp_ret ?_
    refine then_ret ?_
    have e3 := of_some h
    subst e3
    refine ret_ret ?_
    refine fin0 ttok rfl rfl ?_
    exact (wkP_refl _ rfl)
  · replace h := of_bif_f h c2
    refine awp_skip ?_
    refine then_norm ?_
    refine awp_seq ?_
    refine awp_seq ?_
    refine awp_go hmix ?_
    refine go_run' ttok 2 rfl ?_
    obtain ⟨iv, hv4, h⟩ := of_obind h
    refine go_call fn33 (r02_Is_w o.Id 79 iv hv4) rfl rfl rfl rfl rfl rfl rfl ?_
    refine go_run' ttok 2 rfl ?_
    refine go_gcase rfl rfl rfl (fun g5 => ?_) (fun g5 => ?_)
    · rw [g5]
      replace h := of_bif_t h g5
      refine go_run' ttok 5 rfl ?_
      refine go_nil nd ?_
      refine then_norm ?_
      refine awp_cond rfl (fun tt0 => ?_) (fun h => by cases h)
      clear tt0
      refine awp_seq ?_
      refine awp_go hmix ?_
      refine go_run' ttok 1 rfl ?_
      refine go_nil nd ?_
      refine then_norm ?_
      refine awp_ret ?_
      refine then_ret ?_
      have e6 := of_some h
      subst e6
      refine ret_ret ?_
      refine fin0 ttok rfl rfl ?_
      exact (wkP_refl _ rfl)
    · rw [g5]
      replace h := of_bif_f h g5
      refine go_run' ttok 2 rfl ?_
      obtain ⟨iv1, hv7, h⟩ := of_obind h
      refine go_call fn34 (r02_IsName_w o.Species iv1 hv7) rfl rfl rfl rfl rfl rfl rfl ?_
      refine go_run' ttok 2 rfl ?_
      refine go_nil nd ?_
      refine then_norm ?_
      refine awp_cond (b := (!iv1)) rfl (fun c8 => ?_) (fun c8 => ?_)
      · replace h := of_bif_t h c8
        refine awp_seq ?_
        refine awp_go hmix ?_
        refine go_run' ttok 1 rfl ?_
        refine go_nil nd ?_
        refine then_norm ?_
        refine awp_ret ?_
        refine then_ret ?_
        have e9 := of_some h
        subst e9
        refine ret_ret ?_
        refine fin0 ttok rfl rfl ?_
        exact (wkP_refl _ rfl)
      · replace h := of_bif_f h c8
        refine awp_skip ?_
        refine then_norm ?_
        refine awp_seq ?_
        refine awp_seq ?_
        refine awp_go hmix ?_
        refine go_run' ttok 4 rfl ?_
        refine go_gcase rfl rfl rfl (fun g10 => ?_) (fun g10 => ?_)
        · rw [g10]
          replace h := of_bif_t h g10
          refine go_run' ttok 6 rfl ?_
          refine go_nil nd ?_
          refine then_norm ?_
          refine awp_cond rfl (fun tt0 => ?_) (fun h => by cases h)
          clear tt0
          refine awp_seq ?_
          refine awp_go hmix ?_
          refine go_run' ttok 1 rfl ?_
          refine go_nil nd ?_
          refine then_norm ?_
          refine awp_ret ?_
          refine then_ret ?_
          have e11 := of_some h
          subst e11
          refine ret_ret ?_
          refine fin0 ttok rfl rfl ?_
          exact (wkP_refl _ rfl)
        · rw [g10]
          replace h := of_bif_f h g10
          refine go_run' ttok 3 rfl ?_
          refine go_lenT encTProduct c ttok rfl rfl rfl rfl rfl rfl ?_
          refine go_run' ttok 2 rfl ?_
          refine go_nil nd ?_
          refine then_norm ?_
          refine awp_cond (b := (decide (((c.length : Nat) : Int) ≤ o.Product))) rfl (fun c12 => ?_) (fun c12 => ?_)
          · replace h := of_bif_t h c12
            refine awp_seq ?_
            refine awp_go hmix ?_
            refine go_run' ttok 1 rfl ?_
            refine go_nil nd ?_
            refine then_norm ?_
            refine awp_ret ?_
            refine then_ret ?_
            have e13 := of_some h
            subst e13
            refine ret_ret ?_
            refine fin0 ttok rfl rfl ?_
            exact (wkP_refl _ rfl)
          · replace h := of_bif_f h c12
            refine awp_skip ?_
            refine then_norm ?_
            refine awp_seq ?_
            refine awp_seq ?_
            refine awp_go hmix ?_
            refine go_run' ttok 3 rfl ?_
            obtain ⟨e, hv14, h⟩ := of_obind h
            refine go_indexT encTProduct c o.Product e hv14 ttok rfl rfl rfl rfl rfl rfl rfl rfl rfl ?_
            refine go_run' ttok 4 rfl ?_
            obtain ⟨hv, hv15, h⟩ := of_obind h
            refine go_call fn35 (r46_has_w e.Lengths o.Length hv hv15) rfl rfl rfl rfl rfl rfl rfl ?_
            refine go_run' ttok 1 rfl ?_
            refine go_nil (fun _ => by kernel_rfl) ?_
            refine then_norm ?_
            refine awp_cond (b := (!hv)) rfl (fun c16 => ?_) (fun c16 => ?_)
            · replace h := of_bif_t h c16
              refine awp_seq ?_
              refine awp_go hmix ?_
              refine go_run' ttok 1 rfl ?_
              refine go_nil nd ?_
              refine then_norm ?_
              refine awp_ret ?_
              refine then_ret ?_
              have e17 := of_some h
              subst e17
              refine ret_ret ?_
              refine fin0 ttok rfl rfl ?_
              exact (wkP_refl _ rfl)
            · replace h := of_bif_f h c16
              refine awp_skip ?_
              refine then_norm ?_
              refine awp_seq ?_
              refine awp_seq ?_
              refine awp_go hmix ?_
              refine go_run' ttok 4 rfl ?_
              refine go_gcase rfl rfl rfl (fun g18 => ?_) (fun g18 => ?_)
              · rw [g18]
                replace h := of_bif_t h g18
                refine go_run' ttok 4 rfl ?_
                refine go_nil nd ?_
                refine then_norm ?_
                refine awp_cond rfl (fun tt0 => ?_) (fun h => by cases h)
                clear tt0
                refine awp_seq ?_
                refine awp_go hmix ?_
                refine go_run' ttok 1 rfl ?_
                refine go_nil nd ?_
                refine then_norm ?_
                refine awp_ret ?_
                refine then_ret ?_
                have e19 := of_some h
                subst e19
                refine ret_ret ?_
                refine fin0 ttok rfl rfl ?_
                exact (wkP_refl _ rfl)
              · rw [g18]
                replace h := of_bif_f h g18
                refine go_run' ttok 4 rfl ?_
                refine go_nil nd ?_
                refine then_norm ?_
                refine awp_cond (b := (decide (9 < o.Grade))) rfl (fun c20 => ?_) (fun c20 => ?_)
                · replace h := of_bif_t h c20
                  refine awp_seq ?_
                  refine awp_go hmix ?_
                  refine go_run' ttok 1 rfl ?_
                  refine go_nil nd ?_
                  refine then_norm ?_
                  refine awp_ret ?_
                  refine then_ret ?_
                  have e21 := of_some h
                  subst e21
                  refine ret_ret ?_
                  refine fin0 ttok rfl rfl ?_
                  exact (wkP_refl _ rfl)
                · replace h := of_bif_f h c20
                  refine awp_skip ?_
                  refine then_norm ?_
                  refine awp_seq ?_
                  refine awp_seq ?_
                  refine awp_go hmix ?_
                  refine go_run' ttok 4 rfl ?_
                  refine go_gcase rfl rfl rfl (fun g22 => ?_) (fun g22 => ?_)
                  · rw [g22]
                    replace h := of_bif_t h g22
                    refine go_run' ttok 4 rfl ?_
                    refine go_nil nd ?_
                    refine then_norm ?_
                    refine awp_cond rfl (fun tt0 => ?_) (fun h => by cases h)
                    clear tt0
                    refine awp_seq ?_
                    refine awp_go hmix ?_
                    refine go_run' ttok 1 rfl ?_
                    refine go_nil nd ?_
                    refine then_norm ?_
                    refine awp_ret ?_
                    refine then_ret ?_
                    have e23 := of_some h
                    subst e23
                    refine ret_ret ?_
                    refine fin0 ttok rfl rfl ?_
                    exact (wkP_refl _ rfl)
                  · rw [g22]
                    replace h := of_bif_f h g22
                    refine go_run' ttok 4 rfl ?_
                    refine go_nil nd ?_
                    refine then_norm ?_
                    refine awp_cond (b := (decide (20000 < o.Moist))) rfl (fun c24 => ?_) (fun c24 => ?_)
                    · replace h := of_bif_t h c24
                      refine awp_seq ?_
                      refine awp_go hmix ?_
                      refine go_run' ttok 1 rfl ?_
                      refine go_nil nd ?_
                      refine then_norm ?_
                      refine awp_ret ?_
                      refine then_ret ?_
                      have e25 := of_some h
                      subst e25
                      refine ret_ret ?_
                      refine fin0 ttok rfl rfl ?_
                      exact (wkP_refl _ rfl)
                    · replace h := of_bif_f h c24
                      refine awp_skip ?_
                      refine then_norm ?_
                      refine awp_seq ?_
                      refine awp_seq ?_
                      refine awp_go hmix ?_
                      refine go_run' ttok 1 rfl ?_
                      refine go_call fn36 (r46_Sound_w o _ rfl) rfl rfl rfl rfl rfl rfl rfl ?_
                      refine go_run' ttok 2 rfl ?_
                      refine go_gcase rfl rfl rfl (fun g26 => ?_) (fun g26 => ?_)
                      · rw [g26]
                        replace h := of_bif_t h g26
                        refine go_run' ttok 19 rfl ?_
                        refine go_nil nd ?_
                        refine then_norm ?_
                        refine awp_cond rfl (fun tt0 => ?_) (fun h => by cases h)
                        clear tt0
                        refine awp_seq ?_
                        refine awp_go hmix ?_
                        refine go_run' ttok 1 rfl ?_
                        refine go_nil nd ?_
                        refine then_norm ?_
                        refine awp_ret ?_
                        refine then_ret ?_
                        have e27 := of_some h
                        subst e27
                        refine ret_ret ?_
                        refine fin0 ttok rfl rfl ?_
                        exact (wkP_refl _ rfl)
                      · rw [g26]
                        replace h := of_bif_f h g26
                        refine go_run' ttok 5 rfl ?_
                        refine go_gcase rfl rfl rfl (fun g28 => ?_) (fun g28 => ?_)
                        · rw [g28]
                          replace h := of_bif_t h g28
                          refine go_run' ttok 14 rfl ?_
                          refine go_nil nd ?_
                          refine then_norm ?_
                          refine awp_cond rfl (fun tt0 => ?_) (fun h => by cases h)
                          clear tt0
                          refine awp_seq ?_
                          refine awp_go hmix ?_
                          refine go_run' ttok 1 rfl ?_
                          refine go_nil nd ?_
                          refine then_norm ?_
                          refine awp_ret ?_
                          refine then_ret ?_
                          have e29 := of_some h
                          subst e29
                          refine ret_ret ?_
                          refine fin0 ttok rfl rfl ?_
                          exact (wkP_refl _ rfl)
                        · rw [g28]
                          replace h := of_bif_f h g28
                          refine go_run' ttok 5 rfl ?_
                          refine go_gcase rfl rfl rfl (fun g30 => ?_) (fun g30 => ?_)
                          · rw [g30]
                            replace h := of_bif_t h g30
                            refine go_run' ttok 9 rfl ?_
                            refine go_nil nd ?_
                            refine then_norm ?_
                            refine awp_cond rfl (fun tt0 => ?_) (fun h => by cases h)
                            clear tt0
                            refine awp_seq ?_
                            refine awp_go hmix ?_
                            refine go_run' ttok 1 rfl ?_
                            refine go_nil nd ?_
                            refine then_norm ?_
                            refine awp_ret ?_
                            refine then_ret ?_
                            have e31 := of_some h
                            subst e31
                            refine ret_ret ?_
                            refine fin0 ttok rfl rfl ?_
                            exact (wkP_refl _ rfl)
                          · rw [g30]
                            replace h := of_bif_f h g30
                            refine go_run' ttok 5 rfl ?_
                            refine go_gcase rfl rfl rfl (fun g32 => ?_) (fun g32 => ?_)
                            · rw [g32]
                              replace h := of_bif_t h g32
                              refine go_run' ttok 4 rfl ?_
                              refine go_nil nd ?_
                              refine then_norm ?_
                              refine awp_cond rfl (fun tt0 => ?_) (fun h => by cases h)
                              clear tt0
                              refine awp_seq ?_
                              refine awp_go hmix ?_
                              refine go_run' ttok 1 rfl ?_
                              refine go_nil nd ?_
                              refine then_norm ?_
                              refine awp_ret ?_
                              refine then_ret ?_
                              have e33 := of_some h
                              subst e33
                              refine ret_ret ?_
                              refine fin0 ttok rfl rfl ?_
                              exact (wkP_refl _ rfl)
                            · rw [g32]
                              replace h := of_bif_f h g32
                              refine go_run' ttok 4 rfl ?_
                              refine go_nil nd ?_
                              refine then_norm ?_
                              refine awp_cond (b := (decide (10000000 < o.Due))) rfl (fun c34 => ?_) (fun c34 => ?_)
                              · replace h := of_bif_t h c34
                                refine awp_seq ?_
                                refine awp_go hmix ?_
                                refine go_run' ttok 1 rfl ?_
                                refine go_nil nd ?_
                                refine then_norm ?_
                                refine awp_ret ?_
                                refine then_ret ?_
                                have e35 := of_some h
                                subst e35
                                refine ret_ret ?_
                                refine fin0 ttok rfl rfl ?_
                                exact (wkP_refl _ rfl)
                              · replace h := of_bif_f h c34
                                refine awp_skip ?_
                                refine then_norm ?_
                                refine awp_seq ?_
                                refine awp_go hmix ?_
                                refine go_run' ttok 1 rfl ?_
                                refine go_nil nd ?_
                                refine then_norm ?_
                                refine awp_ret ?_
                                have e36 := of_some h
                                subst e36
                                refine ret_ret ?_
                                refine fin0 ttok rfl rfl ?_
                                exact (wkP_refl _ rfl)

/-- sawmill/sawmilllaw46.OrderChecks -/
noncomputable def l46_OrderChecks_g (o : TOrder) (c : (List TProduct)) : Option Bool :=
  (Option.bind (l19_Short_g c) (fun sv => (bif (!sv) then (Option.bind l46_awake_g (fun av => some av)) else (bif (decide (100 < ((o.Id.size : Nat) : Int))) then (Option.bind l46_awake_g (fun av1 => some av1)) else (bif (decide (100 < ((o.Species.size : Nat) : Int))) then (Option.bind l46_awake_g (fun av2 => some av2)) else (Option.bind (order_Check_g o c) (fun cv => (Option.bind (r46_Check_g o c) (fun cv1 => (bif (cv == cv1) then (Option.bind l46_awake_g (fun av3 => some av3)) else some false))))))))))
theorem l46_OrderChecks_w (o : TOrder) (c : (List TProduct)) (r : Bool) (h : l46_OrderChecks_g o c = some r) : Holds Try.prog 3 [(encTOrder o), ((encL encTProduct) c)] [] (B r) [] := by
  unfold l46_OrderChecks_g at h
  refine holds_fn Try.func3 rfl Try.ntmps3 rfl rfl rfl (fun lim => ?_)
  refine awp_seq ?_
  refine awp_go hmix ?_
  refine go_run' ttok 2 rfl ?_
  refine go_nil nd ?_
  refine then_norm ?_
  refine awp_seq ?_
  refine awp_seq ?_
  refine awp_go hmix ?_
  refine go_run' ttok 1 rfl ?_
  obtain ⟨sv, hv1, h⟩ := of_obind h
  refine go_call fn10 (l19_Short_w c sv hv1) rfl rfl rfl rfl rfl rfl rfl ?_
  refine go_run' ttok 2 rfl ?_
  refine go_gcase rfl rfl rfl (fun g2 => ?_) (fun g2 => ?_)
  · rw [g2]
    replace h := of_bif_t h g2
    refine go_run' ttok 11 rfl ?_
    refine go_nil nd ?_
    refine then_norm ?_
    refine awp_cond rfl (fun tt0 => ?_) (fun h => by cases h)
    clear tt0
    refine awp_seq ?_
    refine awp_go hmix ?_
    obtain ⟨av, hv3, h⟩ := of_obind h
    refine go_call fn11 (l46_awake_w av hv3) rfl rfl rfl rfl rfl rfl rfl ?_
    refine go_run' ttok 1 rfl ?_
    refine go_nil nd ?_
    refine then_norm ?_
    refine awp_ret ?_
    refine then_ret ?_
    have e4 := of_some h
    subst e4
    refine ret_ret ?_
    refine fin0 ttok rfl rfl ?_
    exact (wkP_refl _ rfl)
  · rw [g2]
    replace h := of_bif_f h g2
    refine go_run' ttok 6 rfl ?_
    refine go_gcase rfl rfl rfl (fun g5 => ?_) (fun g5 => ?_)
    · rw [g5]
      replace h := of_bif_t h g5
      refine go_run' ttok 5 rfl ?_
      refine go_nil nd ?_
      refine then_norm ?_
      refine awp_cond rfl (fun tt0 => ?_) (fun h => by cases h)
      clear tt0
      refine awp_seq ?_
      refine awp_go hmix ?_
      obtain ⟨av1, hv6, h⟩ := of_obind h
      refine go_call fn11 (l46_awake_w av1 hv6) rfl rfl rfl rfl rfl rfl rfl ?_
      refine go_run' ttok 1 rfl ?_
      refine go_nil nd ?_
      refine then_norm ?_
      refine awp_ret ?_
      refine then_ret ?_
      have e7 := of_some h
      subst e7
      refine ret_ret ?_
      refine fin0 ttok rfl rfl ?_
      exact (wkP_refl _ rfl)
    · rw [g5]
      replace h := of_bif_f h g5
      refine go_run' ttok 5 rfl ?_
      refine go_nil nd ?_
      refine then_norm ?_
      refine awp_cond (b := (decide (100 < ((o.Species.size : Nat) : Int)))) rfl (fun c8 => ?_) (fun c8 => ?_)
      · replace h := of_bif_t h c8
        refine awp_seq ?_
        refine awp_go hmix ?_
        obtain ⟨av2, hv9, h⟩ := of_obind h
        refine go_call fn11 (l46_awake_w av2 hv9) rfl rfl rfl rfl rfl rfl rfl ?_
        refine go_run' ttok 1 rfl ?_
        refine go_nil nd ?_
        refine then_norm ?_
        refine awp_ret ?_
        refine then_ret ?_
        have e10 := of_some h
        subst e10
        refine ret_ret ?_
        refine fin0 ttok rfl rfl ?_
        exact (wkP_refl _ rfl)
      · replace h := of_bif_f h c8
        refine awp_skip ?_
        refine then_norm ?_
        refine awp_seq ?_
        refine awp_go hmix ?_
        refine go_run' ttok 2 rfl ?_
        obtain ⟨cv, hv11, h⟩ := of_obind h
        refine go_call fn12 (order_Check_w o c cv hv11) rfl rfl rfl rfl rfl rfl rfl ?_
        refine go_run' ttok 2 rfl ?_
        obtain ⟨cv1, hv12, h⟩ := of_obind h
        refine go_call fn13 (r46_Check_w o c cv1 hv12) rfl rfl rfl rfl rfl rfl rfl ?_
        refine go_run' ttok 2 rfl ?_
        refine go_gcase rfl rfl rfl (fun g13 => ?_) (fun g13 => ?_)
        · rw [g13]
          replace h := of_bif_t h g13
          obtain ⟨av3, hv14, h⟩ := of_obind h
          refine go_call fn11 (l46_awake_w av3 hv14) rfl rfl rfl rfl rfl rfl rfl ?_
          refine go_run' ttok 2 rfl ?_
          refine go_nil (fun _ => by kernel_rfl) ?_
          refine then_norm ?_
          refine awp_ret ?_
          have e15 := of_some h
          subst e15
          refine ret_ret ?_
          refine fin0 ttok rfl rfl ?_
          exact (wkP_refl _ rfl)
        · rw [g13]
          replace h := of_bif_f h g13
          refine go_run' ttok 3 rfl ?_
          refine go_nil (fun _ => by kernel_rfl) ?_
          refine then_norm ?_
          refine awp_ret ?_
          have e16 := of_some h
          subst e16
          refine ret_ret ?_
          refine fin0 ttok rfl rfl ?_
          exact (wkP_refl _ rfl)

/-- sawmill/sawmillref30.within -/
noncomputable def r30_within_g (s : Sp) (low : Int) (high : Int) : Bool :=
  (bif (decide (low ≤ s.a)) then (bif (decide (s.a ≤ high)) then (bif (decide (low ≤ s.b)) then (decide (s.b ≤ high)) else false) else false) else false)
theorem r30_within_w (s : Sp) (low : Int) (high : Int) (r : Bool) (h : r30_within_g s low high = r) : Holds Try.prog 67 [(encSp s), (I low), (I high)] [] (B r) [] := by
  unfold r30_within_g at h
  refine holds_fn Try.func67 rfl Try.ntmps67 rfl rfl rfl (fun lim => ?_)
  refine awp_seq ?_
  refine awp_go hmix ?_
  refine go_run' ttok 2 rfl ?_
  refine go_nil nd ?_
  refine then_norm ?_
  refine awp_seq ?_
  refine awp_go hmix ?_
  refine go_run' ttok 5 rfl ?_
  refine go_gcase rfl rfl rfl (fun g1 => ?_) (fun g1 => ?_)
  · rw [g1]
    replace h := of_bif_t h g1
    refine go_run' ttok 6 rfl ?_
    refine go_gcase rfl rfl rfl (fun g2 => ?_) (fun g2 => ?_)
    · rw [g2]
      replace h := of_bif_t h g2
      refine go_run' ttok 6 rfl ?_
      refine go_gcase rfl rfl rfl (fun g3 => ?_) (fun g3 => ?_)
      · rw [g3]
        replace h := of_bif_t h g3
        refine go_run' ttok 6 rfl ?_
        refine go_nil nd ?_
        refine then_norm ?_
        refine awp_ret ?_
        have e4 := h
        subst e4
        refine ret_ret ?_
        refine fin0 ttok rfl rfl ?_
        exact (wkP_refl _ rfl)
      · rw [g3]
        replace h := of_bif_f h g3
        refine go_run' ttok 6 rfl ?_
        refine go_nil nd ?_
        refine then_norm ?_
        refine awp_ret ?_
        have e5 := h
        subst e5
        refine ret_ret ?_
        refine fin0 ttok rfl rfl ?_
        exact (wkP_refl _ rfl)
    · rw [g2]
      replace h := of_bif_f h g2
      refine go_run' ttok 12 rfl ?_
      refine go_nil nd ?_
      refine then_norm ?_
      refine awp_ret ?_
      have e6 := h
      subst e6
      refine ret_ret ?_
      refine fin0 ttok rfl rfl ?_
      exact (wkP_refl _ rfl)
  · rw [g1]
    replace h := of_bif_f h g1
    refine go_run' ttok 18 rfl ?_
    refine go_nil nd ?_
    refine then_norm ?_
    refine awp_ret ?_
    have e7 := h
    subst e7
    refine ret_ret ?_
    refine fin0 ttok rfl rfl ?_
    exact (wkP_refl _ rfl)

/-- sawmill/sawmillref30.length -/
noncomputable def r30_length_g (s : Sp) : Int :=
  (W64 (s.b - s.a))
theorem r30_length_w (s : Sp) (r : Int) (h : r30_length_g s = r) : Holds Try.prog 68 [(encSp s)] [] (I r) [] := by
  unfold r30_length_g at h
  refine holds_fn Try.func68 rfl Try.ntmps68 rfl rfl rfl (fun lim => ?_)
  refine awp_seq ?_
  refine awp_go hmix ?_
  refine go_run' ttok 2 rfl ?_
  refine go_nil nd ?_
  refine then_norm ?_
  refine awp_seq ?_
  refine awp_go hmix ?_
  refine go_run' ttok 6 rfl ?_
  refine go_nil nd ?_
  refine then_norm ?_
  refine awp_ret ?_
  have e1 := h
  subst e1
  refine ret_ret ?_
  refine fin0 ttok rfl rfl ?_
  exact (wkP_refl _ rfl)

/-- sawmill/sawmillref30.Length -/
noncomputable def r30_Length_g (b : TBoard) : Int :=
  (bif (!(r30_within_g b.Box.z 0 20000)) then 0 else (max 0 (r30_length_g b.Box.z)))
theorem r30_Length_w (b : TBoard) (r : Int) (h : r30_Length_g b = r) : Holds Try.prog 39 [(encTBoard b)] [] (I r) [] := by
  unfold r30_Length_g at h
  refine holds_fn Try.func39 rfl Try.ntmps39 rfl rfl rfl (fun lim => ?_)
  refine awp_seq ?_
  refine awp_go hmix ?_
  refine go_run' ttok 2 rfl ?_
  refine go_nil nd ?_
  refine then_norm ?_
  refine awp_seq ?_
  refine awp_seq ?_
  refine awp_go hmix ?_
  refine go_run' ttok 3 rfl ?_
  refine go_call fn67 (r30_within_w b.Box.z 0 20000 _ rfl) rfl rfl rfl rfl rfl rfl rfl ?_
  refine go_run' ttok 1 rfl ?_
  refine go_nil nd ?_
  refine then_norm ?_
  refine awp_cond (b := (!(r30_within_g b.Box.z 0 20000))) rfl (fun c1 => ?_) (fun c1 => ?_)
  · replace h := of_bif_t h c1
    refine awp_seq ?_
    refine awp_go hmix ?_
    refine go_run' ttok 1 rfl ?_
    refine go_nil nd ?_
    refine then_norm ?_
    refine awp_ret ?_
    refine then_ret ?_
    have e2 := h
    subst e2
    refine ret_ret ?_
    refine fin0 ttok rfl rfl ?_
    exact (wkP_refl _ rfl)
  · replace h := of_bif_f h c1
    refine awp_skip ?_
    refine then_norm ?_
    refine awp_seq ?_
    refine awp_go hmix ?_
    refine go_run' ttok 3 rfl ?_
    refine go_call fn68 (r30_length_w b.Box.z _ rfl) rfl rfl rfl rfl rfl rfl rfl ?_
    refine go_run' ttok 2 rfl ?_
    refine go_nil nd ?_
    refine then_norm ?_
    refine awp_ret ?_
    have e3 := h
    subst e3
    refine ret_ret ?_
    refine fin0 ttok rfl rfl ?_
    exact (wkP_refl _ rfl)

/-- sawmill/sawmillref36.Check -/
noncomputable def r36_Check_g (c : TCell) : Int :=
  (bif (decide (c.Surf < 0)) then 25 else (bif (decide (20000 < c.Surf)) then 25 else (bif (decide (c.Core < 0)) then 25 else (bif (decide (20000 < c.Core)) then 25 else (bif (decide (c.Stress < 0)) then 9 else (bif (decide (1099511627776 < c.Stress)) then 9 else 0))))))
theorem r36_Check_w (c : TCell) (r : Int) (h : r36_Check_g c = r) : Holds Try.prog 69 [(encTCell c)] [] (I r) [] := by
  unfold r36_Check_g at h
  refine holds_fn Try.func69 rfl Try.ntmps69 rfl rfl rfl (fun lim => ?_)
  refine awp_seq ?_
  refine awp_go hmix ?_
  refine go_run' ttok 2 rfl ?_
  refine go_nil nd ?_
  refine then_norm ?_
  refine awp_seq ?_
  refine awp_seq ?_
  refine awp_go hmix ?_
  refine go_run' ttok 4 rfl ?_
  refine go_gcase rfl rfl rfl (fun g1 => ?_) (fun g1 => ?_)
  · rw [g1]
    replace h := of_bif_t h g1
    refine go_run' ttok 14 rfl ?_
    refine go_nil nd ?_
    refine then_norm ?_
    refine awp_cond rfl (fun tt0 => ?_) (fun h => by cases h)
    clear tt0
    refine awp_seq ?_
    refine awp_go hmix ?_
    refine go_run' ttok 1 rfl ?_
    refine go_nil nd ?_
    refine then_norm ?_
    refine awp_ret ?_
    refine then_ret ?_
    have e2 := h
    subst e2
    refine ret_ret ?_
    refine fin0 ttok rfl rfl ?_
    exact (wkP_refl _ rfl)
  · rw [g1]
    replace h := of_bif_f h g1
    refine go_run' ttok 5 rfl ?_
    refine go_gcase rfl rfl rfl (fun g3 => ?_) (fun g3 => ?_)
    · rw [g3]
      replace h := of_bif_t h g3
      refine go_run' ttok 9 rfl ?_
      refine go_nil nd ?_
      refine then_norm ?_
      refine awp_cond rfl (fun tt0 => ?_) (fun h => by cases h)
      clear tt0
      refine awp_seq ?_
      refine awp_go hmix ?_
      refine go_run' ttok 1 rfl ?_
      refine go_nil nd ?_
      refine then_norm ?_
      refine awp_ret ?_
      refine then_ret ?_
      have e4 := h
      subst e4
      refine ret_ret ?_
      refine fin0 ttok rfl rfl ?_
      exact (wkP_refl _ rfl)
    · rw [g3]
      replace h := of_bif_f h g3
      refine go_run' ttok 5 rfl ?_
      refine go_gcase rfl rfl rfl (fun g5 => ?_) (fun g5 => ?_)
      · rw [g5]
        replace h := of_bif_t h g5
        refine go_run' ttok 4 rfl ?_
        refine go_nil nd ?_
        refine then_norm ?_
        refine awp_cond rfl (fun tt0 => ?_) (fun h => by cases h)
        clear tt0
        refine awp_seq ?_
        refine awp_go hmix ?_
        refine go_run' ttok 1 rfl ?_
        refine go_nil nd ?_
        refine then_norm ?_
        refine awp_ret ?_
        refine then_ret ?_
        have e6 := h
        subst e6
        refine ret_ret ?_
        refine fin0 ttok rfl rfl ?_
        exact (wkP_refl _ rfl)
      · rw [g5]
        replace h := of_bif_f h g5
        refine go_run' ttok 4 rfl ?_
        refine go_nil nd ?_
        refine then_norm ?_
        refine awp_cond (b := (decide (20000 < c.Core))) rfl (fun c7 => ?_) (fun c7 => ?_)
        · replace h := of_bif_t h c7
          refine awp_seq ?_
          refine awp_go hmix ?_
          refine go_run' ttok 1 rfl ?_
          refine go_nil nd ?_
          refine then_norm ?_
          refine awp_ret ?_
          refine then_ret ?_
          have e8 := h
          subst e8
          refine ret_ret ?_
          refine fin0 ttok rfl rfl ?_
          exact (wkP_refl _ rfl)
        · replace h := of_bif_f h c7
          refine awp_skip ?_
          refine then_norm ?_
          refine awp_seq ?_
          refine awp_seq ?_
          refine awp_go hmix ?_
          refine go_run' ttok 4 rfl ?_
          refine go_gcase rfl rfl rfl (fun g9 => ?_) (fun g9 => ?_)
          · rw [g9]
            replace h := of_bif_t h g9
            refine go_run' ttok 4 rfl ?_
            refine go_nil nd ?_
            refine then_norm ?_
            refine awp_cond rfl (fun tt0 => ?_) (fun h => by cases h)
            clear tt0
            refine awp_seq ?_
            refine awp_go hmix ?_
            refine go_run' ttok 1 rfl ?_
            refine go_nil nd ?_
            refine then_norm ?_
            refine awp_ret ?_
            refine then_ret ?_
            have e10 := h
            subst e10
            refine ret_ret ?_
            refine fin0 ttok rfl rfl ?_
            exact (wkP_refl _ rfl)
          · rw [g9]
            replace h := of_bif_f h g9
            refine go_run' ttok 4 rfl ?_
            refine go_nil nd ?_
            refine then_norm ?_
            refine awp_cond (b := (decide (1099511627776 < c.Stress))) rfl (fun c11 => ?_) (fun c11 => ?_)
            · replace h := of_bif_t h c11
              refine awp_seq ?_
              refine awp_go hmix ?_
              refine go_run' ttok 1 rfl ?_
              refine go_nil nd ?_
              refine then_norm ?_
              refine awp_ret ?_
              refine then_ret ?_
              have e12 := h
              subst e12
              refine ret_ret ?_
              refine fin0 ttok rfl rfl ?_
              exact (wkP_refl _ rfl)
            · replace h := of_bif_f h c11
              refine awp_skip ?_
              refine then_norm ?_
              refine awp_seq ?_
              refine awp_go hmix ?_
              refine go_run' ttok 1 rfl ?_
              refine go_nil nd ?_
              refine then_norm ?_
              refine awp_ret ?_
              have e13 := h
              subst e13
              refine ret_ret ?_
              refine fin0 ttok rfl rfl ?_
              exact (wkP_refl _ rfl)

/-- sawmill/sawmillref36.Mean -/
noncomputable def r36_Mean_g (c : TCell) : Int :=
  (bif ((r36_Check_g c) != 0) then 0 else (W64 (Int.tdiv (W64 (c.Surf + (W64 (2 * c.Core)))) 3)))
theorem r36_Mean_w (c : TCell) (r : Int) (h : r36_Mean_g c = r) : Holds Try.prog 40 [(encTCell c)] [] (I r) [] := by
  unfold r36_Mean_g at h
  refine holds_fn Try.func40 rfl Try.ntmps40 rfl rfl rfl (fun lim => ?_)
  refine awp_seq ?_
  refine awp_go hmix ?_
  refine go_run' ttok 2 rfl ?_
  refine go_nil nd ?_
  refine then_norm ?_
  refine awp_seq ?_
  refine awp_seq ?_
  refine awp_go hmix ?_
  refine go_run' ttok 1 rfl ?_
  refine go_call fn69 (r36_Check_w c _ rfl) rfl rfl rfl rfl rfl rfl rfl ?_
  refine go_run' ttok 1 rfl ?_
  refine go_nil nd ?_
  refine then_norm ?_
  refine awp_cond (b := ((r36_Check_g c) != 0)) rfl (fun c1 => ?_) (fun c1 => ?_)
  · replace h := of_bif_t h c1
    refine awp_seq ?_
    refine awp_go hmix ?_
    refine go_run' ttok 1 rfl ?_
    refine go_nil nd ?_
    refine then_norm ?_
    refine awp_ret ?_
    refine then_ret ?_
    have e2 := h
    subst e2
    refine ret_ret ?_
    refine fin0 ttok rfl rfl ?_
    exact (wkP_refl _ rfl)
  · replace h := of_bif_f h c1
    refine awp_skip ?_
    refine then_norm ?_
    refine awp_seq ?_
    refine awp_go hmix ?_
    refine go_run' ttok 8 rfl ?_
    refine go_nil nd ?_
    refine then_norm ?_
    refine awp_ret ?_
    have e3 := h
    subst e3
    refine ret_ret ?_
    refine fin0 ttok rfl rfl ?_
    exact (wkP_refl _ rfl)

/-- sawmill/sawmillref46.Fits -/
noncomputable def r46_Fits_g (o : TOrder) (b : TBoard) : Int :=
  (bif (!(bEq b.Species o.Species)) then 24 else (bif (b.Product != o.Product) then 8 else (bif ((r30_Length_g b) != o.Length) then 20 else (bif (!b.Dried) then 14 else (bif (decide (o.Moist < (r36_Mean_g b.Cell))) then 25 else (bif (decide (b.Grade < 1)) then 26 else (bif (decide (o.Grade < b.Grade)) then 26 else 0)))))))
theorem r46_Fits_w (o : TOrder) (b : TBoard) (r : Int) (h : r46_Fits_g o b = r) : Holds Try.prog 15 [(encTOrder o), (encTBoard b)] [] (I r) [] := by
  unfold r46_Fits_g at h
  refine holds_fn Try.func15 rfl Try.ntmps15 rfl rfl rfl (fun lim => ?_)
  refine awp_seq ?_
  refine awp_go hmix ?_
  refine go_run' ttok 3 rfl ?_
  refine go_nil nd ?_
  refine then_norm ?_
  refine awp_seq ?_
  refine awp_seq ?_
  refine awp_go hmix ?_
  refine go_run' ttok 4 rfl ?_
  refine go_neqS b.Species o.Species rfl rfl rfl rfl rfl ?_
  refine go_nil nd ?_
  refine then_norm ?_
  refine awp_cond (b := (!(bEq b.Species o.Species))) rfl (fun c1 => ?_) (fun c1 => ?_)
  · replace h := of_bif_t h c1
    refine awp_seq ?_
    refine awp_go hmix ?_
    refine go_run' ttok 1 rfl ?_
    refine go_nil nd ?_
    refine then_norm ?_
    refine awp_ret ?_
    refine then_ret ?_
    have e2 := h
    subst e2
    refine ret_ret ?_
    refine fin0 ttok rfl rfl ?_
    exact (wkP_refl _ rfl)
  · replace h := of_bif_f h c1
    refine awp_skip ?_
    refine then_norm ?_
    refine awp_seq ?_
    refine awp_seq ?_
    refine awp_go hmix ?_
    refine go_run' ttok 5 rfl ?_
    refine go_nil nd ?_
    refine then_norm ?_
    refine awp_cond (b := (b.Product != o.Product)) rfl (fun c3 => ?_) (fun c3 => ?_)
    · replace h := of_bif_t h c3
      refine awp_seq ?_
      refine awp_go hmix ?_
      refine go_run' ttok 1 rfl ?_
      refine go_nil nd ?_
      refine then_norm ?_
      refine awp_ret ?_
      refine then_ret ?_
      have e4 := h
      subst e4
      refine ret_ret ?_
      refine fin0 ttok rfl rfl ?_
      exact (wkP_refl _ rfl)
    · replace h := of_bif_f h c3
      refine awp_skip ?_
      refine then_norm ?_
      refine awp_seq ?_
      refine awp_seq ?_
      refine awp_go hmix ?_
      refine go_run' ttok 1 rfl ?_
      refine go_call fn39 (r30_Length_w b _ rfl) rfl rfl rfl rfl rfl rfl rfl ?_
      refine go_run' ttok 3 rfl ?_
      refine go_nil (fun _ => by kernel_rfl) ?_
      refine then_norm ?_
      refine awp_cond (b := ((r30_Length_g b) != o.Length)) rfl (fun c5 => ?_) (fun c5 => ?_)
      · replace h := of_bif_t h c5
        refine awp_seq ?_
        refine awp_go hmix ?_
        refine go_run' ttok 1 rfl ?_
        refine go_nil nd ?_
        refine then_norm ?_
        refine awp_ret ?_
        refine then_ret ?_
        have e6 := h
        subst e6
        refine ret_ret ?_
        refine fin0 ttok rfl rfl ?_
        exact (wkP_refl _ rfl)
      · replace h := of_bif_f h c5
        refine awp_skip ?_
        refine then_norm ?_
        refine awp_seq ?_
        refine awp_seq ?_
        refine awp_go hmix ?_
        refine go_run' ttok 3 rfl ?_
        refine go_nil nd ?_
        refine then_norm ?_
        refine awp_cond (b := (!b.Dried)) rfl (fun c7 => ?_) (fun c7 => ?_)
        · replace h := of_bif_t h c7
          refine awp_seq ?_
          refine awp_go hmix ?_
          refine go_run' ttok 1 rfl ?_
          refine go_nil nd ?_
          refine then_norm ?_
          refine awp_ret ?_
          refine then_ret ?_
          have e8 := h
          subst e8
          refine ret_ret ?_
          refine fin0 ttok rfl rfl ?_
          exact (wkP_refl _ rfl)
        · replace h := of_bif_f h c7
          refine awp_skip ?_
          refine then_norm ?_
          refine awp_seq ?_
          refine awp_seq ?_
          refine awp_go hmix ?_
          refine go_run' ttok 2 rfl ?_
          refine go_call fn40 (r36_Mean_w b.Cell _ rfl) rfl rfl rfl rfl rfl rfl rfl ?_
          refine go_run' ttok 3 rfl ?_
          refine go_nil (fun _ => by kernel_rfl) ?_
          refine then_norm ?_
          refine awp_cond (b := (decide (o.Moist < (r36_Mean_g b.Cell)))) rfl (fun c9 => ?_) (fun c9 => ?_)
          · replace h := of_bif_t h c9
            refine awp_seq ?_
            refine awp_go hmix ?_
            refine go_run' ttok 1 rfl ?_
            refine go_nil nd ?_
            refine then_norm ?_
            refine awp_ret ?_
            refine then_ret ?_
            have e10 := h
            subst e10
            refine ret_ret ?_
            refine fin0 ttok rfl rfl ?_
            exact (wkP_refl _ rfl)
          · replace h := of_bif_f h c9
            refine awp_skip ?_
            refine then_norm ?_
            refine awp_seq ?_
            refine awp_seq ?_
            refine awp_go hmix ?_
            refine go_run' ttok 4 rfl ?_
            refine go_gcase rfl rfl rfl (fun g11 => ?_) (fun g11 => ?_)
            · rw [g11]
              replace h := of_bif_t h g11
              refine go_run' ttok 6 rfl ?_
              refine go_nil nd ?_
              refine then_norm ?_
              refine awp_cond rfl (fun tt0 => ?_) (fun h => by cases h)
              clear tt0
              refine awp_seq ?_
              refine awp_go hmix ?_
              refine go_run' ttok 1 rfl ?_
              refine go_nil nd ?_
              refine then_norm ?_
              refine awp_ret ?_
              refine then_ret ?_
              have e12 := h
              subst e12
              refine ret_ret ?_
              refine fin0 ttok rfl rfl ?_
              exact (wkP_refl _ rfl)
            · rw [g11]
              replace h := of_bif_f h g11
              refine go_run' ttok 6 rfl ?_
              refine go_nil nd ?_
              refine then_norm ?_
              refine awp_cond (b := (decide (o.Grade < b.Grade))) rfl (fun c13 => ?_) (fun c13 => ?_)
              · replace h := of_bif_t h c13
                refine awp_seq ?_
                refine awp_go hmix ?_
                refine go_run' ttok 1 rfl ?_
                refine go_nil nd ?_
                refine then_norm ?_
                refine awp_ret ?_
                refine then_ret ?_
                have e14 := h
                subst e14
                refine ret_ret ?_
                refine fin0 ttok rfl rfl ?_
                exact (wkP_refl _ rfl)
              · replace h := of_bif_f h c13
                refine awp_skip ?_
                refine then_norm ?_
                refine awp_seq ?_
                refine awp_go hmix ?_
                refine go_run' ttok 1 rfl ?_
                refine go_nil nd ?_
                refine then_norm ?_
                refine awp_ret ?_
                have e15 := h
                subst e15
                refine ret_ret ?_
                refine fin0 ttok rfl rfl ?_
                exact (wkP_refl _ rfl)

/-- sawmill/sawmillref46.Least -/
noncomputable def r46_Least_g (o : TOrder) : Int :=
  (bif (!(r46_Sound_g o)) then 0 else (W64 (o.Want - o.Minus)))
theorem r46_Least_w (o : TOrder) (r : Int) (h : r46_Least_g o = r) : Holds Try.prog 17 [(encTOrder o)] [] (I r) [] := by
  unfold r46_Least_g at h
  refine holds_fn Try.func17 rfl Try.ntmps17 rfl rfl rfl (fun lim => ?_)
  refine awp_seq ?_
  refine awp_go hmix ?_
  refine go_run' ttok 2 rfl ?_
  refine go_nil nd ?_
  refine then_norm ?_
  refine awp_seq ?_
  refine awp_seq ?_
  refine awp_go hmix ?_
  refine go_run' ttok 1 rfl ?_
  refine go_call fn36 (r46_Sound_w o _ rfl) rfl rfl rfl rfl rfl rfl rfl ?_
  refine go_run' ttok 1 rfl ?_
  refine go_nil nd ?_
  refine then_norm ?_
  refine awp_cond (b := (!(r46_Sound_g o))) rfl (fun c1 => ?_) (fun c1 => ?_)
  · replace h := of_bif_t h c1
    refine awp_seq ?_
    refine awp_go hmix ?_
    refine go_run' ttok 1 rfl ?_
    refine go_nil nd ?_
    refine then_norm ?_
    refine awp_ret ?_
    refine then_ret ?_
    have e2 := h
    subst e2
    refine ret_ret ?_
    refine fin0 ttok rfl rfl ?_
    exact (wkP_refl _ rfl)
  · replace h := of_bif_f h c1
    refine awp_skip ?_
    refine then_norm ?_
    refine awp_seq ?_
    refine awp_go hmix ?_
    refine go_run' ttok 6 rfl ?_
    refine go_nil nd ?_
    refine then_norm ?_
    refine awp_ret ?_
    have e3 := h
    subst e3
    refine ret_ret ?_
    refine fin0 ttok rfl rfl ?_
    exact (wkP_refl _ rfl)

/-- sawmill/sawmillref46.Most -/
noncomputable def r46_Most_g (o : TOrder) : Int :=
  (bif (!(r46_Sound_g o)) then 0 else (W64 (o.Want + o.Plus)))
theorem r46_Most_w (o : TOrder) (r : Int) (h : r46_Most_g o = r) : Holds Try.prog 19 [(encTOrder o)] [] (I r) [] := by
  unfold r46_Most_g at h
  refine holds_fn Try.func19 rfl Try.ntmps19 rfl rfl rfl (fun lim => ?_)
  refine awp_seq ?_
  refine awp_go hmix ?_
  refine go_run' ttok 2 rfl ?_
  refine go_nil nd ?_
  refine then_norm ?_
  refine awp_seq ?_
  refine awp_seq ?_
  refine awp_go hmix ?_
  refine go_run' ttok 1 rfl ?_
  refine go_call fn36 (r46_Sound_w o _ rfl) rfl rfl rfl rfl rfl rfl rfl ?_
  refine go_run' ttok 1 rfl ?_
  refine go_nil nd ?_
  refine then_norm ?_
  refine awp_cond (b := (!(r46_Sound_g o))) rfl (fun c1 => ?_) (fun c1 => ?_)
  · replace h := of_bif_t h c1
    refine awp_seq ?_
    refine awp_go hmix ?_
    refine go_run' ttok 1 rfl ?_
    refine go_nil nd ?_
    refine then_norm ?_
    refine awp_ret ?_
    refine then_ret ?_
    have e2 := h
    subst e2
    refine ret_ret ?_
    refine fin0 ttok rfl rfl ?_
    exact (wkP_refl _ rfl)
  · replace h := of_bif_f h c1
    refine awp_skip ?_
    refine then_norm ?_
    refine awp_seq ?_
    refine awp_go hmix ?_
    refine go_run' ttok 6 rfl ?_
    refine go_nil nd ?_
    refine then_norm ?_
    refine awp_ret ?_
    have e3 := h
    subst e3
    refine ret_ret ?_
    refine fin0 ttok rfl rfl ?_
    exact (wkP_refl _ rfl)

/-- sawmill/sawmilllaw46.OrderFits -/
noncomputable def l46_OrderFits_g (o : TOrder) (b : TBoard) : Option Bool :=
  (bif ((order_Fits_g o b) == (r46_Fits_g o b)) then (bif ((order_Least_g o) == (r46_Least_g o)) then (bif ((order_Most_g o) == (r46_Most_g o)) then (Option.bind l46_awake_g (fun av => some av)) else some false) else some false) else some false)
theorem l46_OrderFits_w (o : TOrder) (b : TBoard) (r : Bool) (h : l46_OrderFits_g o b = some r) : Holds Try.prog 4 [(encTOrder o), (encTBoard b)] [] (B r) [] := by
  unfold l46_OrderFits_g at h
  refine holds_fn Try.func4 rfl Try.ntmps4 rfl rfl rfl (fun lim => ?_)
  refine awp_seq ?_
  refine awp_go hmix ?_
  refine go_run' ttok 3 rfl ?_
  refine go_nil nd ?_
  refine then_norm ?_
  refine awp_seq ?_
  refine awp_go hmix ?_
  refine go_run' ttok 2 rfl ?_
  refine go_call fn14 (order_Fits_w o b _ rfl) rfl rfl rfl rfl rfl rfl rfl ?_
  refine go_run' ttok 2 rfl ?_
  refine go_call fn15 (r46_Fits_w o b _ rfl) rfl rfl rfl rfl rfl rfl rfl ?_
  refine go_run' ttok 2 rfl ?_
  refine go_gcase rfl rfl rfl (fun g1 => ?_) (fun g1 => ?_)
  · rw [g1]
    replace h := of_bif_t h g1
    refine go_run' ttok 1 rfl ?_
    refine go_call fn16 (order_Least_w o _ rfl) rfl rfl rfl rfl rfl rfl rfl ?_
    refine go_run' ttok 1 rfl ?_
    refine go_call fn17 (r46_Least_w o _ rfl) rfl rfl rfl rfl rfl rfl rfl ?_
    refine go_run' ttok 3 rfl ?_
    refine go_gcase rfl rfl rfl (fun g2 => ?_) (fun g2 => ?_)
    · rw [g2]
      replace h := of_bif_t h g2
      refine go_run' ttok 1 rfl ?_
      refine go_call fn18 (order_Most_w o _ rfl) rfl rfl rfl rfl rfl rfl rfl ?_
      refine go_run' ttok 1 rfl ?_
      refine go_call fn19 (r46_Most_w o _ rfl) rfl rfl rfl rfl rfl rfl rfl ?_
      refine go_run' ttok 3 rfl ?_
      refine go_gcase rfl rfl rfl (fun g3 => ?_) (fun g3 => ?_)
      · rw [g3]
        replace h := of_bif_t h g3
        obtain ⟨av, hv4, h⟩ := of_obind h
        refine go_call fn11 (l46_awake_w av hv4) rfl rfl rfl rfl rfl rfl rfl ?_
        refine go_run' ttok 2 rfl ?_
        refine go_nil (fun _ => by kernel_rfl) ?_
        refine then_norm ?_
        refine awp_ret ?_
        have e5 := of_some h
        subst e5
        refine ret_ret ?_
        refine fin0 ttok rfl rfl ?_
        exact (wkP_refl _ rfl)
      · rw [g3]
        replace h := of_bif_f h g3
        refine go_run' ttok 3 rfl ?_
        refine go_nil (fun _ => by kernel_rfl) ?_
        refine then_norm ?_
        refine awp_ret ?_
        have e6 := of_some h
        subst e6
        refine ret_ret ?_
        refine fin0 ttok rfl rfl ?_
        exact (wkP_refl _ rfl)
    · rw [g2]
      replace h := of_bif_f h g2
      refine go_run' ttok 10 rfl ?_
      refine go_nil (fun _ => by kernel_rfl) ?_
      refine then_norm ?_
      refine awp_ret ?_
      have e7 := of_some h
      subst e7
      refine ret_ret ?_
      refine fin0 ttok rfl rfl ?_
      exact (wkP_refl _ rfl)
  · rw [g1]
    replace h := of_bif_f h g1
    refine go_run' ttok 17 rfl ?_
    refine go_nil (fun _ => by kernel_rfl) ?_
    refine then_norm ?_
    refine awp_ret ?_
    have e8 := of_some h
    subst e8
    refine ret_ret ?_
    refine fin0 ttok rfl rfl ?_
    exact (wkP_refl _ rfl)

noncomputable def r46_Filled_s2 (l : (List TBoard)) (i : Int) (k : Int) : Option (Int ⊕ ((Int ⊕ (Bool ⊕ Unit)) ⊕ Unit)) :=
  (bif (decide (k < i)) then (Option.bind (getI l k) (fun e1 => (Option.bind (getI l i) (fun e2 => (bif (bEq e1.Id e2.Id) then some (Sum.inr (Sum.inl (Sum.inr (Sum.inl false)))) else some (Sum.inl (W64 (k + 1)))))))) else some (Sum.inr (Sum.inr ())))
noncomputable def r46_Filled_s1 (o : TOrder) (l : (List TBoard)) (i : Int) : Option (Int ⊕ (Bool ⊕ Unit)) :=
  (bif (decide (i < ((l.length : Nat) : Int))) then (Option.bind ((Option.bind (getI l i) (fun e => (bif ((r46_Fits_g o e) != 0) then some (Sum.inl (Sum.inr (Sum.inl false))) else (loopO (fun q => r46_Filled_s2 l i q) 0)))) : Option ((Int ⊕ (Bool ⊕ Unit)) ⊕ Unit)) (Sum.elim (fun q => some q) (fun _ => some (Sum.inl (W64 (i + 1)))))) else some (Sum.inr (Sum.inr ())))
/-- sawmill/sawmillref46.Filled -/
noncomputable def r46_Filled_g (o : TOrder) (l : (List TBoard)) : Option Bool :=
  (bif (!(r46_Sound_g o)) then some false else (bif (decide (((l.length : Nat) : Int) < (r46_Least_g o))) then some false else (bif (decide ((r46_Most_g o) < ((l.length : Nat) : Int))) then some false else (Option.bind ((loopO (fun q => r46_Filled_s1 o l q) 0) : Option (Bool ⊕ Unit)) (Sum.elim (fun q => some q) (fun _ => some true))))))
theorem r46_Filled_w (o : TOrder) (l : (List TBoard)) (r : Bool) (h : r46_Filled_g o l = some r) : Holds Try.prog 21 [(encTOrder o), ((encL encTBoard) l)] [] (B r) [] := by
  unfold r46_Filled_g at h
  refine holds_fn Try.func21 rfl Try.ntmps21 rfl rfl rfl (fun lim => ?_)
  refine awp_seq ?_
  refine awp_go hmix ?_
  refine go_run' ttok 2 rfl ?_
  refine go_nil nd ?_
  refine then_norm ?_
  refine awp_seq ?_
  refine awp_seq ?_
  refine awp_go hmix ?_
  refine go_run' ttok 1 rfl ?_
  refine go_call fn36 (r46_Sound_w o _ rfl) rfl rfl rfl rfl rfl rfl rfl ?_
  refine go_run' ttok 2 rfl ?_
  refine go_gcase rfl rfl rfl (fun g1 => ?_) (fun g1 => ?_)
  · rw [g1]
    replace h := of_bif_t h g1
    refine go_run' ttok 13 rfl ?_
    refine go_nil nd ?_
    refine then_norm ?_
    refine awp_cond rfl (fun tt0 => ?_) (fun h => by cases h)
    clear tt0
    refine awp_seq ?_
    refine awp_go hmix ?_
    refine go_run' ttok 1 rfl ?_
    refine go_nil nd ?_
    refine then_norm ?_
    refine awp_ret ?_
    refine then_ret ?_
    have e2 := of_some h
    subst e2
    refine ret_ret ?_
    refine fin0 ttok rfl rfl ?_
    exact (wkP_refl _ rfl)
  · rw [g1]
    replace h := of_bif_f h g1
    refine go_run' ttok 1 rfl ?_
    refine go_lenT encTBoard l ttok rfl rfl rfl rfl rfl rfl ?_
    refine go_run' ttok 1 rfl ?_
    refine go_call fn17 (r46_Least_w o _ rfl) rfl rfl rfl rfl rfl rfl rfl ?_
    refine go_run' ttok 3 rfl ?_
    refine go_gcase rfl rfl rfl (fun g3 => ?_) (fun g3 => ?_)
    · rw [g3]
      replace h := of_bif_t h g3
      refine go_run' ttok 6 rfl ?_
      refine go_nil nd ?_
      refine then_norm ?_
      refine awp_cond rfl (fun tt0 => ?_) (fun h => by cases h)
      clear tt0
      refine awp_seq ?_
      refine awp_go hmix ?_
      refine go_run' ttok 1 rfl ?_
      refine go_nil nd ?_
      refine then_norm ?_
      refine awp_ret ?_
      refine then_ret ?_
      have e4 := of_some h
      subst e4
      refine ret_ret ?_
      refine fin0 ttok rfl rfl ?_
      exact (wkP_refl _ rfl)
    · rw [g3]
      replace h := of_bif_f h g3
      refine go_run' ttok 1 rfl ?_
      refine go_lenT encTBoard l ttok rfl rfl rfl rfl rfl rfl ?_
      refine go_run' ttok 1 rfl ?_
      refine go_call fn19 (r46_Most_w o _ rfl) rfl rfl rfl rfl rfl rfl rfl ?_
      refine go_run' ttok 2 rfl ?_
      refine go_nil nd ?_
      refine then_norm ?_
      refine awp_cond (b := (decide ((r46_Most_g o) < ((l.length : Nat) : Int)))) rfl (fun c5 => ?_) (fun c5 => ?_)
      · replace h := of_bif_t h c5
        refine awp_seq ?_
        refine awp_go hmix ?_
        refine go_run' ttok 1 rfl ?_
        refine go_nil nd ?_
        refine then_norm ?_
        refine awp_ret ?_
        refine then_ret ?_
        have e6 := of_some h
        subst e6
        refine ret_ret ?_
        refine fin0 ttok rfl rfl ?_
        exact (wkP_refl _ rfl)
      · replace h := of_bif_f h c5
        refine awp_skip ?_
        refine then_norm ?_
        obtain ⟨y, hx7, h⟩ := of_obind h
        refine awp_seqJ (X := Unit) [] [] (fun _ => []) (fun _ => []) (fun w => Sum.inr w = y) rfl rfl ?_ ?_
        · skip
          refine awp_seq ?_
          refine awp_go hmix ?_
          refine go_run' ttok 1 rfl ?_
          refine go_nil nd ?_
          refine then_norm ?_
          refine awp_block ?_
          refine awp_loopD (X := Int) (Y := (Bool ⊕ Unit)) [1, 2] [2] (fun q => [(5, (I q))]) (fun q => []) (fun q => r46_Filled_s1 o l q) 0 [(2, some 2)] hx7 ⟨rfl, rfl, rfl, rfl, rfl, ⟨wkP_id _ rfl, trivial⟩, trivial⟩ (fun i vR vz hz9 hk10 => ?_)
          change r46_Filled_s1 o l i = _ at hz9
          unfold r46_Filled_s1 at hz9
          refine awp_seq ?_
          refine awp_seq ?_
          refine awp_go hmix ?_
          refine go_run' ttok 2 rfl ?_
          refine go_lenT encTBoard l ttok rfl rfl rfl rfl rfl rfl ?_
          refine go_run' ttok 1 rfl ?_
          refine go_nil nd ?_
          refine then_norm ?_
          refine awp_cond (b := (decide (i < ((l.length : Nat) : Int)))) rfl (fun c11 => ?_) (fun c11 => ?_)
          · replace hz9 := of_bif_t hz9 c11
            refine awp_skip ?_
            refine then_norm ?_
            obtain ⟨y1, hx12, hz9⟩ := of_obind hz9
            refine awp_seqJ (X := Unit) [1, 2, 5] [2] (fun _ => []) (fun _ => []) (fun w1 => Sum.inr w1 = y1) rfl rfl ?_ ?_
            · skip
              refine awp_block ?_
              refine awp_seq ?_
              refine awp_seq ?_
              refine awp_go hmix ?_
              refine go_run' ttok 3 rfl ?_
              obtain ⟨e, hv14, hx12⟩ := of_obind hx12
              refine go_indexT encTBoard l i e hv14 ttok rfl rfl rfl rfl rfl rfl rfl rfl rfl ?_
              refine go_run' ttok 1 rfl ?_
              refine go_call fn15 (r46_Fits_w o e _ rfl) rfl rfl rfl rfl rfl rfl rfl ?_
              refine go_run' ttok 1 rfl ?_
              refine go_nil (fun _ => by kernel_rfl) ?_
              refine then_norm ?_
              refine awp_cond (b := ((r46_Fits_g o e) != 0)) rfl (fun c15 => ?_) (fun c15 => ?_)
              · replace hx12 := of_bif_t hx12 c15
                refine awp_seq ?_
                refine awp_go hmix ?_
                refine go_run' ttok 1 rfl ?_
                refine go_nil nd ?_
                refine then_norm ?_
                refine awp_ret ?_
                refine then_ret ?_
                refine block_ret ?_
                obtain ⟨t, hn16, hq⟩ := of_mapl' hx12
                subst hq
                have hq := of_inl hz9
                replace hq := of_some hq
                subst hq
                refine then_ret ?_
                obtain ⟨t1, hn17, hq⟩ := of_mapr' hn16
                subst hq
                have hq : t1 = _ := hk10
                subst hq
                refine then_ret ?_
                refine block_ret ?_
                obtain ⟨t2, hn18, hq⟩ := of_mapl' hn17
                subst hq
                have hq := of_inl h
                replace hq := of_some hq
                subst hq
                refine then_ret ?_
                have e19 := of_some hn18
                subst e19
                refine ret_ret ?_
                refine fin0 ttok rfl rfl ?_
                exact (wkP_refl _ rfl)
              · replace hx12 := of_bif_f hx12 c15
                refine awp_skip ?_
                refine then_norm ?_
                refine awp_seq ?_
                refine awp_go hmix ?_
                refine go_run' ttok 1 rfl ?_
                refine go_nil nd ?_
                refine then_norm ?_
                refine awp_block ?_
                refine awp_loopD (X := Int) (Y := ((Int ⊕ (Bool ⊕ Unit)) ⊕ Unit)) [1, 2, 5] [2] (fun q => [(6, (I q))]) (fun q => []) (fun q => r46_Filled_s2 l i q) 0 [(2, some 2)] hx12 ⟨rfl, rfl, rfl, rfl, rfl, ⟨wkP_id _ rfl, trivial⟩, trivial⟩ (fun k vR1 vz1 hz20 hk21 => ?_)
                change r46_Filled_s2 l i k = _ at hz20
                unfold r46_Filled_s2 at hz20
                refine awp_seq ?_
                refine awp_seq ?_
                refine awp_go hmix ?_
                refine go_run' ttok 3 rfl ?_
                refine go_nil nd ?_
                refine then_norm ?_
                refine awp_cond (b := (decide (k < i))) rfl (fun c22 => ?_) (fun c22 => ?_)
                · replace hz20 := of_bif_t hz20 c22
                  refine awp_skip ?_
                  refine then_norm ?_
                  refine awp_seq ?_
                  refine awp_block ?_
                  refine awp_seq ?_
                  refine awp_go hmix ?_
                  refine go_run' ttok 2 rfl ?_
                  obtain ⟨e1, hv23, hz20⟩ := of_obind hz20
                  refine go_indexT encTBoard l k e1 hv23 ttok rfl rfl rfl rfl rfl rfl rfl rfl rfl ?_
                  refine go_run' ttok 4 rfl ?_
                  obtain ⟨e2, hv24, hz20⟩ := of_obind hz20
                  refine go_indexT encTBoard l i e2 hv24 ttok rfl rfl rfl rfl rfl rfl rfl rfl rfl ?_
                  refine go_run' ttok 2 rfl ?_
                  refine go_eqlS e1.Id e2.Id rfl rfl rfl rfl rfl ?_
                  refine go_nil (fun _ => by kernel_rfl) ?_
                  refine then_norm ?_
                  refine awp_cond (b := (bEq e1.Id e2.Id)) rfl (fun c25 => ?_) (fun c25 => ?_)
                  · replace hz20 := of_bif_t hz20 c25
                    refine awp_seq ?_
                    refine awp_go hmix ?_
                    refine go_run' ttok 1 rfl ?_
                    refine go_nil nd ?_
                    refine then_norm ?_
                    refine awp_ret ?_
                    refine block_ret ?_
                    refine then_ret ?_
                    obtain ⟨t3, hn26, hq⟩ := of_mapr' hz20
                    subst hq
                    have hq : t3 = _ := hk21
                    subst hq
                    refine then_ret ?_
                    refine block_ret ?_
                    refine block_ret ?_
                    obtain ⟨t4, hn27, hq⟩ := of_mapl' hn26
                    subst hq
                    have hq := of_inl hz9
                    replace hq := of_some hq
                    subst hq
                    refine then_ret ?_
                    obtain ⟨t5, hn28, hq⟩ := of_mapr' hn27
                    subst hq
                    have hq : t5 = _ := hk10
                    subst hq
                    refine then_ret ?_
                    refine block_ret ?_
                    obtain ⟨t6, hn29, hq⟩ := of_mapl' hn28
                    subst hq
                    have hq := of_inl h
                    replace hq := of_some hq
                    subst hq
                    refine then_ret ?_
                    have e30 := of_some hn29
                    subst e30
                    refine ret_ret ?_
                    refine fin0 ttok rfl rfl ?_
                    exact (wkP_refl _ rfl)
                  · replace hz20 := of_bif_f hz20 c25
                    refine awp_skip ?_
                    refine block_norm ?_
                    refine then_norm ?_
                    refine awp_go hmix ?_
                    refine go_run' ttok 3 rfl ?_
                    refine go_nil nd ?_
                    have e31 := of_some hz20
                    subst e31
                    refine then_norm ⟨rfl, (W64 (k + 1)), [(2, some 2)], ⟨rfl, rfl, rfl, rfl, rfl, ⟨wkP_id _ rfl, trivial⟩, trivial⟩, hk21⟩
                · replace hz20 := of_bif_f hz20 c22
                  refine awp_exit ?_
                  refine then_exit ?_
                  obtain ⟨t7, hn32, hq⟩ := of_mapr' hz20
                  subst hq
                  have hq : t7 = _ := hk21
                  subst hq
                  refine then_exit ?_
                  refine block_here ?_
                  refine block_norm ?_
                  have e33 := of_some hn32
                  refine then_norm ⟨rfl, (), [(2, some 2)], ⟨rfl, rfl, rfl, rfl, rfl, trivial, trivial⟩, e33⟩
            · intro w1 hw13
              subst hw13
              replace hz9 := of_inr hz9
              refine awp_go hmix ?_
              refine go_run' ttok 3 rfl ?_
              refine go_nil nd ?_
              have e34 := of_some hz9
              subst e34
              refine then_norm ⟨rfl, (W64 (i + 1)), [(2, some 2)], ⟨rfl, rfl, rfl, rfl, rfl, ⟨wkP_id _ rfl, trivial⟩, trivial⟩, hk10⟩
          · replace hz9 := of_bif_f hz9 c11
            refine awp_exit ?_
            refine then_exit ?_
            obtain ⟨t8, hn35, hq⟩ := of_mapr' hz9
            subst hq
            have hq : t8 = _ := hk10
            subst hq
            refine then_exit ?_
            refine block_here ?_
            have e36 := of_some hn35
            refine then_norm ⟨rfl, (), [], ⟨rfl, rfl, rfl, rfl, rfl, trivial, trivial⟩, e36⟩
        · intro w hw8
          subst hw8
          replace h := of_inr h
          refine awp_seq ?_
          refine awp_go hmix ?_
          refine go_run' ttok 1 rfl ?_
          refine go_nil nd ?_
          refine then_norm ?_
          refine awp_ret ?_
          have e37 := of_some h
          subst e37
          refine ret_ret ?_
          refine fin0 ttok rfl rfl ?_
          exact (wkP_refl _ rfl)

/-- sawmill/sawmilllaw46.OrderFills -/
noncomputable def l46_OrderFills_g (o : TOrder) (l : (List TBoard)) : Option Bool :=
  (bif (decide (250 < ((l.length : Nat) : Int))) then (Option.bind l46_awake_g (fun av => some av)) else (Option.bind (order_Filled_g o l) (fun fv => (Option.bind (r46_Filled_g o l) (fun fv1 => (bif (fv == fv1) then (Option.bind l46_awake_g (fun av1 => some av1)) else some false))))))
theorem l46_OrderFills_w (o : TOrder) (l : (List TBoard)) (r : Bool) (h : l46_OrderFills_g o l = some r) : Holds Try.prog 5 [(encTOrder o), ((encL encTBoard) l)] [] (B r) [] := by
  unfold l46_OrderFills_g at h
  refine holds_fn Try.func5 rfl Try.ntmps5 rfl rfl rfl (fun lim => ?_)
  refine awp_seq ?_
  refine awp_go hmix ?_
  refine go_run' ttok 2 rfl ?_
  refine go_nil nd ?_
  refine then_norm ?_
  refine awp_seq ?_
  refine awp_go hmix ?_
  refine go_run' ttok 1 rfl ?_
  refine go_lenT encTBoard l ttok rfl rfl rfl rfl rfl rfl ?_
  refine go_run' ttok 2 rfl ?_
  refine go_gcase rfl rfl rfl (fun g1 => ?_) (fun g1 => ?_)
  · rw [g1]
    replace h := of_bif_t h g1
    refine go_run' ttok 9 rfl ?_
    obtain ⟨av, hv2, h⟩ := of_obind h
    refine go_call fn11 (l46_awake_w av hv2) rfl rfl rfl rfl rfl rfl rfl ?_
    refine go_run' ttok 2 rfl ?_
    refine go_nil (fun _ => by kernel_rfl) ?_
    refine then_norm ?_
    refine awp_ret ?_
    have e3 := of_some h
    subst e3
    refine ret_ret ?_
    refine fin0 ttok rfl rfl ?_
    exact (wkP_refl _ rfl)
  · rw [g1]
    replace h := of_bif_f h g1
    refine go_run' ttok 2 rfl ?_
    obtain ⟨fv, hv4, h⟩ := of_obind h
    refine go_call fn20 (order_Filled_w o l fv hv4) rfl rfl rfl rfl rfl rfl rfl ?_
    refine go_run' ttok 2 rfl ?_
    obtain ⟨fv1, hv5, h⟩ := of_obind h
    refine go_call fn21 (r46_Filled_w o l fv1 hv5) rfl rfl rfl rfl rfl rfl rfl ?_
    refine go_step rfl (as_eqBool rfl (ttok _ _ rfl) rfl rfl rfl) rfl rfl rfl ?_
    refine go_run' ttok 2 rfl ?_
    refine go_gcase rfl rfl rfl (fun g6 => ?_) (fun g6 => ?_)
    · rw [g6]
      replace h := of_bif_t h g6
      obtain ⟨av1, hv7, h⟩ := of_obind h
      refine go_call fn11 (l46_awake_w av1 hv7) rfl rfl rfl rfl rfl rfl rfl ?_
      refine go_run' ttok 2 rfl ?_
      refine go_nil (fun _ => by kernel_rfl) ?_
      refine then_norm ?_
      refine awp_ret ?_
      have e8 := of_some h
      subst e8
      refine ret_ret ?_
      refine fin0 ttok rfl rfl ?_
      exact (wkP_refl _ rfl)
    · rw [g6]
      replace h := of_bif_f h g6
      refine go_run' ttok 3 rfl ?_
      refine go_nil (fun _ => by kernel_rfl) ?_
      refine then_norm ?_
      refine awp_ret ?_
      have e9 := of_some h
      subst e9
      refine ret_ret ?_
      refine fin0 ttok rfl rfl ?_
      exact (wkP_refl _ rfl)

/-- sawmill/sawmillref46.numbers -/
noncomputable def r46_numbers_g (o : TOrder) : (List Int) :=
  [o.Product, o.Length, o.Grade, o.Moist, o.Want, o.Minus, o.Plus, o.Price, o.Due]
theorem r46_numbers_w (o : TOrder) (r : (List Int)) (h : r46_numbers_g o = r) : Holds Try.prog 43 [(encTOrder o)] [] ((encL I) r) [] := by
  unfold r46_numbers_g at h
  refine holds_fn Try.func43 rfl Try.ntmps43 rfl rfl rfl (fun lim => ?_)
  refine awp_seq ?_
  refine awp_go hmix ?_
  refine go_run' ttok 2 rfl ?_
  refine go_nil nd ?_
  refine then_norm ?_
  refine awp_seq ?_
  refine awp_go hmix ?_
  refine go_run' ttok 20 rfl ?_
  refine go_nil nd ?_
  refine then_norm ?_
  refine awp_freezeM [] [] [(21, some ⟨3, 1, ([o.Product, o.Length, o.Grade, o.Moist, o.Want, o.Minus, o.Plus, o.Price, o.Due]).map I⟩)] [] [(2, (encL I ([o.Product, o.Length, o.Grade, o.Moist, o.Want, o.Minus, o.Plus, o.Price, o.Due])))] [] rfl rfl rfl rfl rfl ⟨rfl, by decide, trivial⟩ ⟨(wkP_lend rfl (by first | rfl | simp [setI]) (fun _ => rfl)), trivial⟩ trivial ?_
  refine awp_ret ?_
  have e1 := h
  subst e1
  refine ret_ret ?_
  refine fin0 ttok rfl rfl ?_
  exact (wkP_refl _ rfl)

/-- sawmill/sawmillref05.Uint -/
noncomputable def r05_Uint_r : Nat → Int → Option ByteArray
  | 0 => fun _ => none
  | N + 1 => fun n =>
  (bif (decide (n < 128)) then some (b2s ([(WU8 n)])) else (Option.bind (r05_Uint_r N (WU64 (Int.tdiv n 128))) (fun uv => (Option.bind (catO (b2s ([(WU8 (WU64 (128 + (Int.tmod n 128))))])) uv) (fun t => some t)))))
theorem r05_Uint_mono : ∀ (N : Nat) (n : Int) , OLe (r05_Uint_r N n) (r05_Uint_r (N + 1) n) := by
  intro N
  induction N with
  | zero => intro n r h; cases h
  | succ N ih =>
    intro n
    rw [r05_Uint_r, r05_Uint_r]
    repeat' (first | exact ole_rfl | exact ih _ | refine ole_bif ?_ ?_ | refine ole_bind ?_ (fun _ => ?_) | refine ole_let (fun _ => ?_) | refine ole_map ?_ | refine ole_elim (fun _ => ?_) (fun _ => ?_))
noncomputable def r05_Uint_g (n : Int) : Option ByteArray := limO (fun N => r05_Uint_r N n)
theorem r05_Uint_rw : ∀ (N : Nat) (n : Int) (r : ByteArray) (h : r05_Uint_r N n = some r), Holds Try.prog 74 [(U64 n)] [] (S r) [] := by
  intro N
  induction N with
  | zero => intro n r h; cases h
  | succ N ih =>
    intro n r h
    rw [r05_Uint_r] at h
    refine holds_fn Try.func74 rfl Try.ntmps74 rfl rfl rfl (fun lim => ?_)
    refine awp_seq ?_
    refine awp_go hmix ?_
    refine go_run' ttok 1 rfl ?_
    refine go_nil nd ?_
    refine then_norm ?_
    refine awp_seq ?_
    refine awp_seq ?_
    refine awp_go hmix ?_
    refine go_run' ttok 2 rfl ?_
    refine go_nil nd ?_
    refine then_norm ?_
    refine awp_cond (b := (decide (n < 128))) rfl (fun c1 => ?_) (fun c1 => ?_)
    · replace h := of_bif_t h c1
      refine awp_seq ?_
      refine awp_go hmix ?_
      refine go_run' ttok 3 rfl ?_
      refine go_b2s ([(WU8 n)]) (by first | rfl | simp [setI]) ttok rfl rfl rfl rfl rfl rfl rfl rfl rfl rfl rfl rfl ?_
      refine go_run' ttok 1 rfl ?_
      refine go_nil nd ?_
      refine then_norm ?_
      refine awp_ret ?_
      refine then_ret ?_
      have e2 := of_some h
      subst e2
      refine ret_ret ?_
      refine fin0 ttok rfl rfl ?_
      exact (wkP_refl _ rfl)
    · replace h := of_bif_f h c1
      refine awp_skip ?_
      refine then_norm ?_
      refine awp_seq ?_
      refine awp_go hmix ?_
      refine go_run' ttok 5 rfl ?_
      refine go_b2s ([(WU8 (WU64 (128 + (Int.tmod n 128))))]) (by first | rfl | simp [setI]) ttok rfl rfl rfl rfl rfl rfl rfl rfl rfl rfl rfl rfl ?_
      refine go_run' ttok 2 rfl ?_
      obtain ⟨uv, hv3, h⟩ := of_obind h
      refine go_call fn74 (ih (WU64 (Int.tdiv n 128)) uv hv3) rfl rfl rfl rfl rfl rfl rfl ?_
      obtain ⟨t, hv4, h⟩ := of_obind h
      refine go_catT (b2s ([(WU8 (WU64 (128 + (Int.tmod n 128))))])) uv t hv4 rfl rfl rfl rfl rfl ?_
      refine go_run' ttok 1 rfl ?_
      refine go_nil (fun _ => by kernel_rfl) ?_
      refine then_norm ?_
      refine awp_ret ?_
      have e5 := of_some h
      subst e5
      refine ret_ret ?_
      refine fin0 ttok rfl rfl ?_
      exact (wkP_refl _ rfl)
theorem r05_Uint_w (n : Int) (r : ByteArray) (h : r05_Uint_g n = some r) : Holds Try.prog 74 [(U64 n)] [] (S r) [] := by
  obtain ⟨N, hN⟩ := limO_some h
  exact r05_Uint_rw N n r hN
theorem r05_Uint_g_of {N : Nat} (n : Int) {r : ByteArray} (h : r05_Uint_r N n = some r) : r05_Uint_g n = some r := limO_of (fun N => r05_Uint_mono N n) h

/-- sawmill/sawmillref05.Text -/
noncomputable def r05_Text_g (s : ByteArray) : Option ByteArray :=
  (Option.bind (r05_Uint_g (WU64 ((s.size : Nat) : Int))) (fun uv => (Option.bind (catO uv s) (fun t => some t))))
theorem r05_Text_w (s : ByteArray) (r : ByteArray) (h : r05_Text_g s = some r) : Holds Try.prog 44 [(S s)] [] (S r) [] := by
  unfold r05_Text_g at h
  refine holds_fn Try.func44 rfl Try.ntmps44 rfl rfl rfl (fun lim => ?_)
  refine awp_seq ?_
  refine awp_go hmix ?_
  refine go_run' ttok 1 rfl ?_
  refine go_nil nd ?_
  refine then_norm ?_
  refine awp_seq ?_
  refine awp_go hmix ?_
  refine go_run' ttok 3 rfl ?_
  obtain ⟨uv, hv1, h⟩ := of_obind h
  refine go_call fn74 (r05_Uint_w (WU64 ((s.size : Nat) : Int)) uv hv1) rfl rfl rfl rfl rfl rfl rfl ?_
  refine go_run' ttok 1 rfl ?_
  obtain ⟨t, hv2, h⟩ := of_obind h
  refine go_catT uv s t hv2 rfl rfl rfl rfl rfl ?_
  refine go_run' ttok 1 rfl ?_
  refine go_nil nd ?_
  refine then_norm ?_
  refine awp_ret ?_
  have e3 := of_some h
  subst e3
  refine ret_ret ?_
  refine fin0 ttok rfl rfl ?_
  exact (wkP_refl _ rfl)

/-- sawmill/sawmillref05.Zigzag -/
noncomputable def r05_Zigzag_g (n : Int) : Int :=
  (bif (decide (0 ≤ n)) then (WU64 (2 * (WU64 n))) else (WU64 ((WU64 (2 * (WU64 (W64 (0 - (W64 (n + 1))))))) + 1)))
theorem r05_Zigzag_w (n : Int) (r : Int) (h : r05_Zigzag_g n = r) : Holds Try.prog 93 [(I n)] [] (U64 r) [] := by
  unfold r05_Zigzag_g at h
  refine holds_fn Try.func93 rfl Try.ntmps93 rfl rfl rfl (fun lim => ?_)
  refine awp_seq ?_
  refine awp_go hmix ?_
  refine go_run' ttok 1 rfl ?_
  refine go_nil nd ?_
  refine then_norm ?_
  refine awp_seq ?_
  refine awp_seq ?_
  refine awp_go hmix ?_
  refine go_run' ttok 2 rfl ?_
  refine go_nil nd ?_
  refine then_norm ?_
  refine awp_cond (b := (decide (0 ≤ n))) rfl (fun c1 => ?_) (fun c1 => ?_)
  · replace h := of_bif_t h c1
    refine awp_seq ?_
    refine awp_go hmix ?_
    refine go_run' ttok 4 rfl ?_
    refine go_nil nd ?_
    refine then_norm ?_
    refine awp_ret ?_
    refine then_ret ?_
    have e2 := h
    subst e2
    refine ret_ret ?_
    refine fin0 ttok rfl rfl ?_
    exact (wkP_refl _ rfl)
  · replace h := of_bif_f h c1
    refine awp_skip ?_
    refine then_norm ?_
    refine awp_seq ?_
    refine awp_go hmix ?_
    refine go_run' ttok 7 rfl ?_
    refine go_nil nd ?_
    refine then_norm ?_
    refine awp_ret ?_
    have e3 := h
    subst e3
    refine ret_ret ?_
    refine fin0 ttok rfl rfl ?_
    exact (wkP_refl _ rfl)

/-- sawmill/sawmillref05.Int -/
noncomputable def r05_Int_g (n : Int) : Option ByteArray :=
  (Option.bind (r05_Uint_g (r05_Zigzag_g n)) (fun uv => some uv))
theorem r05_Int_w (n : Int) (r : ByteArray) (h : r05_Int_g n = some r) : Holds Try.prog 75 [(I n)] [] (S r) [] := by
  unfold r05_Int_g at h
  refine holds_fn Try.func75 rfl Try.ntmps75 rfl rfl rfl (fun lim => ?_)
  refine awp_seq ?_
  refine awp_go hmix ?_
  refine go_run' ttok 1 rfl ?_
  refine go_nil nd ?_
  refine then_norm ?_
  refine awp_seq ?_
  refine awp_go hmix ?_
  refine go_run' ttok 1 rfl ?_
  refine go_call fn93 (r05_Zigzag_w n _ rfl) rfl rfl rfl rfl rfl rfl rfl ?_
  obtain ⟨uv, hv1, h⟩ := of_obind h
  refine go_call fn74 (r05_Uint_w (r05_Zigzag_g n) uv hv1) rfl rfl rfl rfl rfl rfl rfl ?_
  refine go_run' ttok 1 rfl ?_
  refine go_nil nd ?_
  refine then_norm ?_
  refine awp_ret ?_
  have e2 := of_some h
  subst e2
  refine ret_ret ?_
  refine fin0 ttok rfl rfl ?_
  exact (wkP_refl _ rfl)

noncomputable def r05_Ints_s1 (l : (List Int)) (s1 : ByteArray) (i : Int) : Option ((ByteArray × Int) ⊕ ByteArray) :=
  (bif (decide (i < ((l.length : Nat) : Int))) then (Option.bind (getI l i) (fun e => (Option.bind (r05_Int_g e) (fun iv => (Option.bind (catO s1 iv) (fun t => some (Sum.inl (t, (W64 (i + 1)))))))))) else some (Sum.inr s1))
/-- sawmill/sawmillref05.Ints -/
noncomputable def r05_Ints_g (l : (List Int)) : Option ByteArray :=
  (Option.bind (r05_Uint_g (WU64 ((l.length : Nat) : Int))) (fun uv => (Option.bind ((loopO (fun q => r05_Ints_s1 l q.1 q.2) (uv, 0)) : Option ByteArray) (fun s => some s))))
theorem r05_Ints_w (l : (List Int)) (r : ByteArray) (h : r05_Ints_g l = some r) : Holds Try.prog 45 [((encL I) l)] [] (S r) [] := by
  unfold r05_Ints_g at h
  refine holds_fn Try.func45 rfl Try.ntmps45 rfl rfl rfl (fun lim => ?_)
  refine awp_seq ?_
  refine awp_go hmix ?_
  refine go_run' ttok 1 rfl ?_
  refine go_nil nd ?_
  refine then_norm ?_
  refine awp_seq ?_
  refine awp_go hmix ?_
  refine go_run' ttok 1 rfl ?_
  refine go_lenT I l ttok rfl rfl rfl rfl rfl rfl ?_
  refine go_run' ttok 1 rfl ?_
  obtain ⟨uv, hv1, h⟩ := of_obind h
  refine go_call fn74 (r05_Uint_w (WU64 ((l.length : Nat) : Int)) uv hv1) rfl rfl rfl rfl rfl rfl rfl ?_
  refine go_run' ttok 1 rfl ?_
  refine go_nil nd ?_
  refine then_norm ?_
  obtain ⟨y, hx2, h⟩ := of_obind h
  refine awp_seqJ (X := ByteArray) [] [] (fun w => [(3, (S w))]) (fun w => []) (fun w => w = y) rfl rfl ?_ ?_
  · skip
    refine awp_seq ?_
    refine awp_go hmix ?_
    refine go_run' ttok 1 rfl ?_
    refine go_nil nd ?_
    refine then_norm ?_
    refine awp_block ?_
    refine awp_loopD (X := (ByteArray × Int)) (Y := ByteArray) [0] [] (fun q => [(3, (S q.1)), (4, (I q.2))]) (fun q => []) (fun q => r05_Ints_s1 l q.1 q.2) (uv, 0) [] hx2 ⟨rfl, rfl, rfl, rfl, rfl, ⟨wkP_id _ rfl, wkP_id _ rfl, trivial⟩, trivial⟩ (fun x vR vz hz4 hk5 => ?_)
    obtain ⟨s1, i⟩ := x
    change r05_Ints_s1 l s1 i = _ at hz4
    unfold r05_Ints_s1 at hz4
    refine awp_seq ?_
    refine awp_seq ?_
    refine awp_go hmix ?_
    refine go_run' ttok 2 rfl ?_
    refine go_lenT I l ttok rfl rfl rfl rfl rfl rfl ?_
    refine go_run' ttok 1 rfl ?_
    refine go_nil nd ?_
    refine then_norm ?_
    refine awp_cond (b := (decide (i < ((l.length : Nat) : Int)))) rfl (fun c6 => ?_) (fun c6 => ?_)
    · replace hz4 := of_bif_t hz4 c6
      refine awp_skip ?_
      refine then_norm ?_
      refine awp_seq ?_
      refine awp_block ?_
      refine awp_go hmix ?_
      refine go_run' ttok 3 rfl ?_
      obtain ⟨e, hv7, hz4⟩ := of_obind hz4
      refine go_indexT I l i e hv7 ttok rfl rfl rfl rfl rfl rfl rfl rfl rfl ?_
      refine go_run' ttok 1 rfl ?_
      obtain ⟨iv, hv8, hz4⟩ := of_obind hz4
      refine go_call fn75 (r05_Int_w e iv hv8) rfl rfl rfl rfl rfl rfl rfl ?_
      obtain ⟨t, hv9, hz4⟩ := of_obind hz4
      refine go_catT s1 iv t hv9 rfl rfl rfl rfl rfl ?_
      refine go_run' ttok 1 rfl ?_
      refine go_nil nd ?_
      refine block_norm ?_
      refine then_norm ?_
      refine awp_go hmix ?_
      refine go_run' ttok 3 rfl ?_
      refine go_nil nd ?_
      have e10 := of_some hz4
      subst e10
      refine then_norm ⟨rfl, (t, (W64 (i + 1))), [], ⟨rfl, rfl, rfl, rfl, rfl, ⟨wkP_id _ rfl, wkP_id _ rfl, trivial⟩, trivial⟩, hk5⟩
    · replace hz4 := of_bif_f hz4 c6
      refine awp_exit ?_
      refine then_exit ?_
      obtain ⟨t1, hn11, hq⟩ := of_mapr' hz4
      subst hq
      have hq : t1 = _ := hk5
      subst hq
      refine then_exit ?_
      refine block_here ?_
      have e12 := of_some hn11
      refine then_norm ⟨rfl, s1, [], ⟨rfl, rfl, rfl, rfl, rfl, ⟨wkP_id _ rfl, trivial⟩, trivial⟩, e12⟩
  · intro s hw3
    subst hw3
    refine awp_seq ?_
    refine awp_go hmix ?_
    refine go_run' ttok 2 rfl ?_
    refine go_nil nd ?_
    refine then_norm ?_
    refine awp_ret ?_
    have e13 := of_some h
    subst e13
    refine ret_ret ?_
    refine fin0 ttok rfl rfl ?_
    exact (wkP_refl _ rfl)

noncomputable def r46_Encode_s1 (nv : (List Int)) (i : Int) : Option (Int ⊕ ((ByteArray × Int) ⊕ Unit)) :=
  (bif (decide (i < ((nv.length : Nat) : Int))) then (Option.bind (getI nv i) (fun e => (bif (decide (e < (-1099511627776))) then some (Sum.inr (Sum.inl ((⟨#[]⟩ : ByteArray), 9))) else (Option.bind (getI nv i) (fun e1 => (bif (decide (1099511627776 < e1)) then some (Sum.inr (Sum.inl ((⟨#[]⟩ : ByteArray), 9))) else some (Sum.inl (W64 (i + 1))))))))) else some (Sum.inr (Sum.inr ())))
/-- sawmill/sawmillref46.Encode -/
noncomputable def r46_Encode_g (o : TOrder) : Option (ByteArray × Int) :=
  (bif (decide (16 < ((o.Id.size : Nat) : Int))) then some ((⟨#[]⟩ : ByteArray), 6) else (bif (decide (16 < ((o.Species.size : Nat) : Int))) then some ((⟨#[]⟩ : ByteArray), 6) else (letB (r46_numbers_g o) (fun nv => (Option.bind ((loopO (fun q => r46_Encode_s1 nv q) 0) : Option ((ByteArray × Int) ⊕ Unit)) (Sum.elim (fun q => some q) (fun _ => (Option.bind (r05_Text_g o.Id) (fun tv => (Option.bind (r05_Text_g o.Species) (fun tv1 => (Option.bind (catO tv tv1) (fun t5 => (Option.bind (r05_Ints_g nv) (fun iv => (Option.bind (catO t5 iv) (fun t6 => some (t6, 0))))))))))))))))))
theorem r46_Encode_w (o : TOrder) (r : (ByteArray × Int)) (h : r46_Encode_g o = some r) : Holds Try.prog 23 [(encTOrder o)] [] (.tup [(S r.1), (I r.2)]) [] := by
  unfold r46_Encode_g at h
  refine holds_fn Try.func23 rfl Try.ntmps23 rfl rfl rfl (fun lim => ?_)
  refine awp_seq ?_
  refine awp_go hmix ?_
  refine go_run' ttok 3 rfl ?_
  refine go_nil nd ?_
  refine then_norm ?_
  refine awp_seq ?_
  refine awp_seq ?_
  refine awp_go hmix ?_
  refine go_run' ttok 5 rfl ?_
  refine go_gcase rfl rfl rfl (fun g1 => ?_) (fun g1 => ?_)
  · rw [g1]
    replace h := of_bif_t h g1
    refine go_run' ttok 5 rfl ?_
    refine go_nil nd ?_
    refine then_norm ?_
    refine awp_cond rfl (fun tt0 => ?_) (fun h => by cases h)
    clear tt0
    refine awp_seq ?_
    refine awp_go hmix ?_
    refine go_run' ttok 2 rfl ?_
    refine go_nil nd ?_
    refine then_norm ?_
    refine awp_ret ?_
    refine then_ret ?_
    have e2 := of_some h
    subst e2
    refine ret_ret ?_
    refine fin0 ttok rfl rfl ?_
    exact wkP_refl _ rfl
  · rw [g1]
    replace h := of_bif_f h g1
    refine go_run' ttok 5 rfl ?_
    refine go_nil nd ?_
    refine then_norm ?_
    refine awp_cond (b := (decide (16 < ((o.Species.size : Nat) : Int)))) rfl (fun c3 => ?_) (fun c3 => ?_)
    · replace h := of_bif_t h c3
      refine awp_seq ?_
      refine awp_go hmix ?_
      refine go_run' ttok 2 rfl ?_
      refine go_nil nd ?_
      refine then_norm ?_
      refine awp_ret ?_
      refine then_ret ?_
      have e4 := of_some h
      subst e4
      refine ret_ret ?_
      refine fin0 ttok rfl rfl ?_
      exact wkP_refl _ rfl
    · replace h := of_bif_f h c3
      refine awp_skip ?_
      refine then_norm ?_
      refine awp_seq ?_
      refine awp_go hmix ?_
      refine go_run' ttok 1 rfl ?_
      obtain ⟨nv, hv5, h⟩ := of_let h
      refine go_call fn43 (r46_numbers_w o nv hv5) rfl rfl rfl rfl rfl rfl rfl ?_
      refine go_run' ttok 1 rfl ?_
      refine go_nil nd ?_
      refine then_norm ?_
      obtain ⟨y, hx6, h⟩ := of_obind h
      refine awp_seqJ (X := Unit) [1, 4] [1] (fun _ => []) (fun _ => []) (fun w => Sum.inr w = y) rfl rfl ?_ ?_
      · skip
        refine awp_seq ?_
        refine awp_go hmix ?_
        refine go_run' ttok 1 rfl ?_
        refine go_nil nd ?_
        refine then_norm ?_
        refine awp_block ?_
        refine awp_loopD (X := Int) (Y := ((ByteArray × Int) ⊕ Unit)) [1, 4] [1] (fun q => [(5, (I q))]) (fun q => []) (fun q => r46_Encode_s1 nv q) 0 [(1, some 1)] hx6 ⟨rfl, rfl, rfl, rfl, rfl, ⟨wkP_id _ rfl, trivial⟩, trivial⟩ (fun i vR vz hz8 hk9 => ?_)
        change r46_Encode_s1 nv i = _ at hz8
        unfold r46_Encode_s1 at hz8
        refine awp_seq ?_
        refine awp_seq ?_
        refine awp_go hmix ?_
        refine go_run' ttok 2 rfl ?_
        refine go_lenT I nv ttok rfl rfl rfl rfl rfl rfl ?_
        refine go_run' ttok 1 rfl ?_
        refine go_nil nd ?_
        refine then_norm ?_
        refine awp_cond (b := (decide (i < ((nv.length : Nat) : Int)))) rfl (fun c10 => ?_) (fun c10 => ?_)
        · replace hz8 := of_bif_t hz8 c10
          refine awp_skip ?_
          refine then_norm ?_
          refine awp_seq ?_
          refine awp_block ?_
          refine awp_seq ?_
          refine awp_go hmix ?_
          refine go_run' ttok 2 rfl ?_
          obtain ⟨e, hv11, hz8⟩ := of_obind hz8
          refine go_indexT I nv i e hv11 ttok rfl rfl rfl rfl rfl rfl rfl rfl rfl ?_
          refine go_run' ttok 3 rfl ?_
          refine go_gcase rfl rfl rfl (fun g12 => ?_) (fun g12 => ?_)
          · rw [g12]
            replace hz8 := of_bif_t hz8 g12
            refine go_run' ttok 6 rfl ?_
            refine go_nil nd ?_
            refine then_norm ?_
            refine awp_cond rfl (fun tt0 => ?_) (fun h => by cases h)
            clear tt0
            refine awp_seq ?_
            refine awp_go hmix ?_
            refine go_run' ttok 2 rfl ?_
            refine go_nil nd ?_
            refine then_norm ?_
            refine awp_ret ?_
            refine block_ret ?_
            refine then_ret ?_
            obtain ⟨t, hn13, hq⟩ := of_mapr' hz8
            subst hq
            have hq : t = _ := hk9
            subst hq
            refine then_ret ?_
            refine block_ret ?_
            obtain ⟨t1, hn14, hq⟩ := of_mapl' hn13
            subst hq
            have hq := of_inl h
            replace hq := of_some hq
            subst hq
            refine then_ret ?_
            have e15 := of_some hn14
            subst e15
            refine ret_ret ?_
            refine fin0 ttok rfl rfl ?_
            exact wkP_refl _ rfl
          · rw [g12]
            replace hz8 := of_bif_f hz8 g12
            refine go_run' ttok 2 rfl ?_
            obtain ⟨e1, hv16, hz8⟩ := of_obind hz8
            refine go_indexT I nv i e1 hv16 ttok rfl rfl rfl rfl rfl rfl rfl rfl rfl ?_
            refine go_run' ttok 3 rfl ?_
            refine go_nil nd ?_
            refine then_norm ?_
            refine awp_cond (b := (decide (1099511627776 < e1))) rfl (fun c17 => ?_) (fun c17 => ?_)
            · replace hz8 := of_bif_t hz8 c17
              refine awp_seq ?_
              refine awp_go hmix ?_
              refine go_run' ttok 2 rfl ?_
              refine go_nil nd ?_
              refine then_norm ?_
              refine awp_ret ?_
              refine block_ret ?_
              refine then_ret ?_
              obtain ⟨t2, hn18, hq⟩ := of_mapr' hz8
              subst hq
              have hq : t2 = _ := hk9
              subst hq
              refine then_ret ?_
              refine block_ret ?_
              obtain ⟨t3, hn19, hq⟩ := of_mapl' hn18
              subst hq
              have hq := of_inl h
              replace hq := of_some hq
              subst hq
              refine then_ret ?_
              have e20 := of_some hn19
              subst e20
              refine ret_ret ?_
              refine fin0 ttok rfl rfl ?_
              exact wkP_refl _ rfl
            · replace hz8 := of_bif_f hz8 c17
              refine awp_skip ?_
              refine block_norm ?_
              refine then_norm ?_
              refine awp_go hmix ?_
              refine go_run' ttok 3 rfl ?_
              refine go_nil nd ?_
              have e21 := of_some hz8
              subst e21
              refine then_norm ⟨rfl, (W64 (i + 1)), [(1, some 1)], ⟨rfl, rfl, rfl, rfl, rfl, ⟨wkP_id _ rfl, trivial⟩, trivial⟩, hk9⟩
        · replace hz8 := of_bif_f hz8 c10
          refine awp_exit ?_
          refine then_exit ?_
          obtain ⟨t4, hn22, hq⟩ := of_mapr' hz8
          subst hq
          have hq : t4 = _ := hk9
          subst hq
          refine then_exit ?_
          refine block_here ?_
          have e23 := of_some hn22
          refine then_norm ⟨rfl, (), [(1, some 1)], ⟨rfl, rfl, rfl, rfl, rfl, trivial, trivial⟩, e23⟩
      · intro w hw7
        subst hw7
        replace h := of_inr h
        refine awp_seq ?_
        refine awp_go hmix ?_
        refine go_run' ttok 2 rfl ?_
        obtain ⟨tv, hv24, h⟩ := of_obind h
        refine go_call fn44 (r05_Text_w o.Id tv hv24) rfl rfl rfl rfl rfl rfl rfl ?_
        refine go_run' ttok 2 rfl ?_
        obtain ⟨tv1, hv25, h⟩ := of_obind h
        refine go_call fn44 (r05_Text_w o.Species tv1 hv25) rfl rfl rfl rfl rfl rfl rfl ?_
        obtain ⟨t5, hv26, h⟩ := of_obind h
        refine go_catT tv tv1 t5 hv26 rfl rfl rfl rfl rfl ?_
        refine go_run' ttok 1 rfl ?_
        obtain ⟨iv, hv27, h⟩ := of_obind h
        refine go_call fn45 (r05_Ints_w nv iv hv27) rfl rfl rfl rfl rfl rfl rfl ?_
        obtain ⟨t6, hv28, h⟩ := of_obind h
        refine go_catT t5 iv t6 hv28 rfl rfl rfl rfl rfl ?_
        refine go_run' ttok 2 rfl ?_
        refine go_nil (fun _ => by kernel_rfl) ?_
        refine then_norm ?_
        refine awp_ret ?_
        have e29 := of_some h
        subst e29
        refine ret_ret ?_
        refine fin0 ttok rfl rfl ?_
        exact wkP_refl _ rfl

/-- sawmill/sawmillref05.NewReader -/
noncomputable def r05_NewReader_g (s : ByteArray) : Tsawmillref05_Reader :=
  (⟨s, 0, 0⟩ : Tsawmillref05_Reader)
theorem r05_NewReader_w (s : ByteArray) (r : Tsawmillref05_Reader) (h : r05_NewReader_g s = r) : Holds Try.prog 51 [(S s)] [] (encTsawmillref05_Reader r) [] := by
  unfold r05_NewReader_g at h
  refine holds_fn Try.func51 rfl Try.ntmps51 rfl rfl rfl (fun lim => ?_)
  refine awp_seq ?_
  refine awp_go hmix ?_
  refine go_run' ttok 1 rfl ?_
  refine go_nil nd ?_
  refine then_norm ?_
  refine awp_seq ?_
  refine awp_go hmix ?_
  refine go_run' ttok 3 rfl ?_
  refine go_nil nd ?_
  refine then_norm ?_
  refine awp_ret ?_
  have e1 := h
  subst e1
  refine ret_ret ?_
  refine fin0 ttok rfl rfl ?_
  exact (wkP_refl _ rfl)

end Go.Proofs.Ytmfgheklnjmbjaa
