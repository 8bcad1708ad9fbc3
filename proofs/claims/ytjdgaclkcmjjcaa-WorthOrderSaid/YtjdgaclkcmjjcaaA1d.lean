/- A1d: what functions of the program compute (written by mod.py). -/
import Derived.Test.YtjdgaclkcmjjcaaA1c
import Derived.KernelRfl
namespace Go.Proofs.Ytjdgaclkcmjjcaa
open Go Go.Ab
set_option linter.unusedSimpArgs false
set_option linter.unusedVariables false
set_option maxRecDepth 20000

noncomputable def r20_accept_s1 (d : (List Df)) (b : Bx) (i : Int) : Option (Int ⊕ (Bool ⊕ Unit)) :=
  (bif (decide (i < ((d.length : Nat) : Int))) then (Option.bind (getI d i) (fun e => (bif (e.k == 3) then (Option.bind (getI d i) (fun e1 => (bif (r13_Touches_g e1 b) then some (Sum.inr (Sum.inl false)) else some (Sum.inl (W64 (i + 1)))))) else some (Sum.inl (W64 (i + 1)))))) else some (Sum.inr (Sum.inr ())))
/-- sawmill/sawmillref20.accept -/
noncomputable def r20_accept_g (l : (List TSlice)) (d : (List Df)) (p : TProduct) (b : Bx) : Option Bool :=
  (Option.bind (r20_within_g l b) (fun wv => (bif (!wv) then some false else (letB (r19_Green_g p) (fun gv => (Option.bind (r19_Price_g p (W64 (b.z.b - b.z.a))) (fun pv => (Option.bind ((bif (!pv.2) then some (Sum.inl false) else (bif ((W64 (b.x.b - b.x.a)) == gv.1) then (bif (!((W64 (b.y.b - b.y.a)) == gv.2)) then (bif ((W64 (b.x.b - b.x.a)) == gv.2) then (bif (!((W64 (b.y.b - b.y.a)) == gv.1)) then some (Sum.inl false) else some (Sum.inr ())) else some (Sum.inl false)) else some (Sum.inr ())) else (bif ((W64 (b.x.b - b.x.a)) == gv.2) then (bif (!((W64 (b.y.b - b.y.a)) == gv.1)) then some (Sum.inl false) else some (Sum.inr ())) else some (Sum.inl false)))) : Option (Bool ⊕ Unit)) (Sum.elim (fun q => some q) (fun _ => (Option.bind ((loopO (fun q => r20_accept_s1 d b q) 0) : Option (Bool ⊕ Unit)) (Sum.elim (fun q => some q) (fun _ => (Option.bind (r20_wane_g l b) (fun wv1 => some (decide (wv1 ≤ p.Wane)))))))))))))))))
theorem r20_accept_w (l : (List TSlice)) (d : (List Df)) (p : TProduct) (b : Bx) (r : Bool) (h : r20_accept_g l d p b = some r) : Holds Try.prog 42 [((encL encTSlice) l), ((encL encDf) d), (encTProduct p), (encBx b)] [] (B r) [] := by
  unfold r20_accept_g at h
  refine holds_fn Try.func42 rfl Try.ntmps42 rfl rfl rfl ?_
  refine awp_seq ?_
  refine awp_go hmix ?_
  refine go_run' ttok 3 rfl ?_
  refine go_nil nd ?_
  refine then_norm ?_
  refine awp_seq ?_
  refine awp_seq ?_
  refine awp_go hmix ?_
  refine go_run' ttok 2 rfl ?_
  obtain ⟨wv, hv1, h⟩ := of_obind h
  refine go_call fn37 (r20_within_w l b wv hv1) rfl rfl rfl rfl rfl rfl rfl ?_
  refine go_run' ttok 1 rfl ?_
  refine go_nil nd ?_
  refine then_norm ?_
  refine awp_cond (b := (!wv)) rfl (fun c2 => ?_) (fun c2 => ?_)
  · replace h := of_bif_t h c2
    refine awp_seq ?_
    refine awp_go hmix ?_
    refine go_run' ttok 1 rfl ?_
    refine go_nil nd ?_
    refine then_norm ?_
    refine awp_ret ?_
    refine then_ret ?_
    have e3 := of_some h
    subst e3
    refine ret_ret ?_
    refine fin0 ttok rfl rfl ?_
    exact (wkP_refl _ rfl)
  · replace h := of_bif_f h c2
    refine awp_skip ?_
    refine then_norm ?_
    refine awp_seq ?_
    refine awp_go hmix ?_
    refine go_run' ttok 16 rfl ?_
    refine go_nil (fun _ => by kernel_rfl) ?_
    refine then_norm ?_
    refine awp_seq ?_
    refine awp_go hmix ?_
    refine go_run' ttok 1 rfl ?_
    obtain ⟨gv, hv4, h⟩ := of_let h
    refine go_call fn61 (r19_Green_w p gv hv4) rfl rfl rfl rfl rfl rfl rfl ?_
    refine go_run' ttok 5 rfl ?_
    refine go_nil nd ?_
    refine then_norm ?_
    refine awp_seq ?_
    refine awp_go hmix ?_
    refine go_run' ttok 8 rfl ?_
    obtain ⟨pv, hv5, h⟩ := of_obind h
    refine go_call fn56 (r19_Price_w p (W64 (b.z.b - b.z.a)) pv hv5) rfl rfl rfl rfl rfl rfl rfl ?_
    refine go_run' ttok 5 rfl ?_
    refine go_nil nd ?_
    refine then_norm ?_
    obtain ⟨y, hx6, h⟩ := of_obind h
    refine awp_seqJ (X := Unit) [0, 1, 6, 7] [6, 7] (fun _ => []) (fun _ => []) (fun w => Sum.inr w = y) rfl rfl ?_ ?_
    · skip
      refine awp_seq ?_
      refine awp_go hmix ?_
      refine go_run' ttok 3 rfl ?_
      refine go_gcase rfl rfl rfl (fun g8 => ?_) (fun g8 => ?_)
      · rw [g8]
        replace hx6 := of_bif_t hx6 g8
        refine go_run' ttok 21 rfl ?_
        refine go_nil nd ?_
        refine then_norm ?_
        refine awp_cond rfl (fun tt0 => ?_) (fun h => by cases h)
        clear tt0
        refine awp_seq ?_
        refine awp_go hmix ?_
        refine go_run' ttok 1 rfl ?_
        refine go_nil nd ?_
        refine then_norm ?_
        refine awp_ret ?_
        obtain ⟨t, hn9, hq⟩ := of_mapl' hx6
        subst hq
        have hq := of_inl h
        replace hq := of_some hq
        subst hq
        refine then_ret ?_
        have e10 := of_some hn9
        subst e10
        refine ret_ret ?_
        refine fin0 ttok rfl rfl ?_
        exact (wkP_refl _ rfl)
      · rw [g8]
        replace hx6 := of_bif_f hx6 g8
        refine go_run' ttok 4 rfl ?_
        refine go_gcase rfl rfl rfl (fun g11 => ?_) (fun g11 => ?_)
        · rw [g11]
          replace hx6 := of_bif_t hx6 g11
          refine go_run' ttok 6 rfl ?_
          refine go_gcase rfl rfl rfl (fun g12 => ?_) (fun g12 => ?_)
          · rw [g12]
            replace hx6 := of_bif_t hx6 g12
            refine go_run' ttok 4 rfl ?_
            refine go_gcase rfl rfl rfl (fun g13 => ?_) (fun g13 => ?_)
            · rw [g13]
              replace hx6 := of_bif_t hx6 g13
              refine go_run' ttok 7 rfl ?_
              refine go_nil nd ?_
              refine then_norm ?_
              refine awp_cond (b := (!((W64 (b.y.b - b.y.a)) == gv.1))) rfl (fun c14 => ?_) (fun c14 => ?_)
              · replace hx6 := of_bif_t hx6 c14
                refine awp_seq ?_
                refine awp_go hmix ?_
                refine go_run' ttok 1 rfl ?_
                refine go_nil nd ?_
                refine then_norm ?_
                refine awp_ret ?_
                obtain ⟨t1, hn15, hq⟩ := of_mapl' hx6
                subst hq
                have hq := of_inl h
                replace hq := of_some hq
                subst hq
                refine then_ret ?_
                have e16 := of_some hn15
                subst e16
                refine ret_ret ?_
                refine fin0 ttok rfl rfl ?_
                exact (wkP_refl _ rfl)
              · replace hx6 := of_bif_f hx6 c14
                refine awp_skip ?_
                have e17 := of_some hx6
                refine then_norm ⟨rfl, (), [(6, some 6), (7, some 7)], ⟨rfl, rfl, rfl, rfl, rfl, trivial, trivial⟩, e17⟩
            · rw [g13]
              replace hx6 := of_bif_f hx6 g13
              refine go_run' ttok 7 rfl ?_
              refine go_nil nd ?_
              refine then_norm ?_
              refine awp_cond rfl (fun tt0 => ?_) (fun h => by cases h)
              clear tt0
              refine awp_seq ?_
              refine awp_go hmix ?_
              refine go_run' ttok 1 rfl ?_
              refine go_nil nd ?_
              refine then_norm ?_
              refine awp_ret ?_
              obtain ⟨t2, hn18, hq⟩ := of_mapl' hx6
              subst hq
              have hq := of_inl h
              replace hq := of_some hq
              subst hq
              refine then_ret ?_
              have e19 := of_some hn18
              subst e19
              refine ret_ret ?_
              refine fin0 ttok rfl rfl ?_
              exact (wkP_refl _ rfl)
          · rw [g12]
            replace hx6 := of_bif_f hx6 g12
            refine go_run' ttok 11 rfl ?_
            refine go_nil nd ?_
            refine then_norm ?_
            refine awp_cond rfl (fun h => by cases h) (fun tt0 => ?_)
            clear tt0
            refine awp_skip ?_
            have e20 := of_some hx6
            refine then_norm ⟨rfl, (), [(6, some 6), (7, some 7)], ⟨rfl, rfl, rfl, rfl, rfl, trivial, trivial⟩, e20⟩
        · rw [g11]
          replace hx6 := of_bif_f hx6 g11
          refine go_run' ttok 10 rfl ?_
          refine go_gcase rfl rfl rfl (fun g21 => ?_) (fun g21 => ?_)
          · rw [g21]
            replace hx6 := of_bif_t hx6 g21
            refine go_run' ttok 7 rfl ?_
            refine go_nil nd ?_
            refine then_norm ?_
            refine awp_cond (b := (!((W64 (b.y.b - b.y.a)) == gv.1))) rfl (fun c22 => ?_) (fun c22 => ?_)
            · replace hx6 := of_bif_t hx6 c22
              refine awp_seq ?_
              refine awp_go hmix ?_
              refine go_run' ttok 1 rfl ?_
              refine go_nil nd ?_
              refine then_norm ?_
              refine awp_ret ?_
              obtain ⟨t3, hn23, hq⟩ := of_mapl' hx6
              subst hq
              have hq := of_inl h
              replace hq := of_some hq
              subst hq
              refine then_ret ?_
              have e24 := of_some hn23
              subst e24
              refine ret_ret ?_
              refine fin0 ttok rfl rfl ?_
              exact (wkP_refl _ rfl)
            · replace hx6 := of_bif_f hx6 c22
              refine awp_skip ?_
              have e25 := of_some hx6
              refine then_norm ⟨rfl, (), [(6, some 6), (7, some 7)], ⟨rfl, rfl, rfl, rfl, rfl, trivial, trivial⟩, e25⟩
          · rw [g21]
            replace hx6 := of_bif_f hx6 g21
            refine go_run' ttok 7 rfl ?_
            refine go_nil nd ?_
            refine then_norm ?_
            refine awp_cond rfl (fun tt0 => ?_) (fun h => by cases h)
            clear tt0
            refine awp_seq ?_
            refine awp_go hmix ?_
            refine go_run' ttok 1 rfl ?_
            refine go_nil nd ?_
            refine then_norm ?_
            refine awp_ret ?_
            obtain ⟨t4, hn26, hq⟩ := of_mapl' hx6
            subst hq
            have hq := of_inl h
            replace hq := of_some hq
            subst hq
            refine then_ret ?_
            have e27 := of_some hn26
            subst e27
            refine ret_ret ?_
            refine fin0 ttok rfl rfl ?_
            exact (wkP_refl _ rfl)
    · intro w hw7
      subst hw7
      replace h := of_inr h
      obtain ⟨y1, hx28, h⟩ := of_obind h
      refine awp_seqJ (X := Unit) [0, 6, 7] [6, 7] (fun _ => []) (fun _ => []) (fun w1 => Sum.inr w1 = y1) rfl rfl ?_ ?_
      · skip
        refine awp_seq ?_
        refine awp_go hmix ?_
        refine go_run' ttok 1 rfl ?_
        refine go_nil nd ?_
        refine then_norm ?_
        refine awp_block ?_
        refine awp_loopD (X := Int) (Y := (Bool ⊕ Unit)) [0, 1, 6, 7] [6, 7] (fun q => [(15, (I q))]) (fun q => []) (fun q => r20_accept_s1 d b q) 0 [(6, some 6), (7, some 7)] hx28 ⟨rfl, rfl, rfl, rfl, rfl, ⟨wkP_id _ rfl, trivial⟩, trivial⟩ (fun i vR vz hz30 hk31 => ?_)
        change r20_accept_s1 d b i = _ at hz30
        unfold r20_accept_s1 at hz30
        refine awp_seq ?_
        refine awp_seq ?_
        refine awp_go hmix ?_
        refine go_run' ttok 2 rfl ?_
        refine go_lenT encDf d ttok rfl rfl rfl rfl rfl rfl ?_
        refine go_run' ttok 1 rfl ?_
        refine go_nil nd ?_
        refine then_norm ?_
        refine awp_cond (b := (decide (i < ((d.length : Nat) : Int)))) rfl (fun c32 => ?_) (fun c32 => ?_)
        · replace hz30 := of_bif_t hz30 c32
          refine awp_skip ?_
          refine then_norm ?_
          refine awp_seq ?_
          refine awp_block ?_
          refine awp_seq ?_
          refine awp_go hmix ?_
          refine go_run' ttok 2 rfl ?_
          obtain ⟨e, hv33, hz30⟩ := of_obind hz30
          refine go_indexT encDf d i e hv33 ttok rfl rfl rfl rfl rfl rfl rfl rfl rfl ?_
          refine go_run' ttok 4 rfl ?_
          refine go_gcase rfl rfl rfl (fun g34 => ?_) (fun g34 => ?_)
          · rw [g34]
            replace hz30 := of_bif_t hz30 g34
            refine go_run' ttok 2 rfl ?_
            obtain ⟨e1, hv35, hz30⟩ := of_obind hz30
            refine go_indexT encDf d i e1 hv35 ttok rfl rfl rfl rfl rfl rfl rfl rfl rfl ?_
            refine go_run' ttok 2 rfl ?_
            refine go_call fn57 (r13_Touches_w e1 b _ rfl) rfl rfl rfl rfl rfl rfl rfl ?_
            refine go_run' ttok 1 rfl ?_
            refine go_nil (fun _ => by kernel_rfl) ?_
            refine then_norm ?_
            refine awp_cond (b := (r13_Touches_g e1 b)) rfl (fun c36 => ?_) (fun c36 => ?_)
            · replace hz30 := of_bif_t hz30 c36
              refine awp_seq ?_
              refine awp_go hmix ?_
              refine go_run' ttok 1 rfl ?_
              refine go_nil nd ?_
              refine then_norm ?_
              refine awp_ret ?_
              refine block_ret ?_
              refine then_ret ?_
              obtain ⟨t5, hn37, hq⟩ := of_mapr' hz30
              subst hq
              have hq : t5 = _ := hk31
              subst hq
              refine then_ret ?_
              refine block_ret ?_
              obtain ⟨t6, hn38, hq⟩ := of_mapl' hn37
              subst hq
              have hq := of_inl h
              replace hq := of_some hq
              subst hq
              refine then_ret ?_
              have e39 := of_some hn38
              subst e39
              refine ret_ret ?_
              refine fin0 ttok rfl rfl ?_
              exact (wkP_refl _ rfl)
            · replace hz30 := of_bif_f hz30 c36
              refine awp_skip ?_
              refine block_norm ?_
              refine then_norm ?_
              refine awp_go hmix ?_
              refine go_run' ttok 3 rfl ?_
              refine go_nil nd ?_
              have e40 := of_some hz30
              subst e40
              refine then_norm ⟨rfl, (W64 (i + 1)), [(6, some 6), (7, some 7)], ⟨rfl, rfl, rfl, rfl, rfl, ⟨wkP_id _ rfl, trivial⟩, trivial⟩, hk31⟩
          · rw [g34]
            replace hz30 := of_bif_f hz30 g34
            refine go_run' ttok 7 rfl ?_
            refine go_nil (fun _ => by kernel_rfl) ?_
            refine then_norm ?_
            refine awp_cond rfl (fun h => by cases h) (fun tt0 => ?_)
            clear tt0
            refine awp_skip ?_
            refine block_norm ?_
            refine then_norm ?_
            refine awp_go hmix ?_
            refine go_run' ttok 3 rfl ?_
            refine go_nil nd ?_
            have e41 := of_some hz30
            subst e41
            refine then_norm ⟨rfl, (W64 (i + 1)), [(6, some 6), (7, some 7)], ⟨rfl, rfl, rfl, rfl, rfl, ⟨wkP_id _ rfl, trivial⟩, trivial⟩, hk31⟩
        · replace hz30 := of_bif_f hz30 c32
          refine awp_exit ?_
          refine then_exit ?_
          obtain ⟨t7, hn42, hq⟩ := of_mapr' hz30
          subst hq
          have hq : t7 = _ := hk31
          subst hq
          refine then_exit ?_
          refine block_here ?_
          have e43 := of_some hn42
          refine then_norm ⟨rfl, (), [(6, some 6), (7, some 7)], ⟨rfl, rfl, rfl, rfl, rfl, trivial, trivial⟩, e43⟩
      · intro w1 hw29
        subst hw29
        replace h := of_inr h
        refine awp_seq ?_
        refine awp_go hmix ?_
        refine go_run' ttok 2 rfl ?_
        obtain ⟨wv1, hv44, h⟩ := of_obind h
        refine go_call fn38 (r20_wane_w l b wv1 hv44) rfl rfl rfl rfl rfl rfl rfl ?_
        refine go_run' ttok 4 rfl ?_
        refine go_nil (fun _ => by kernel_rfl) ?_
        refine then_norm ?_
        refine awp_ret ?_
        have e45 := of_some h
        subst e45
        refine ret_ret ?_
        refine fin0 ttok rfl rfl ?_
        exact (wkP_refl _ rfl)

/-- sawmill/sawmillref20.Accept -/
noncomputable def r20_Accept_g (l : (List TSlice)) (d : (List Df)) (p : TProduct) (b : Bx) : Option Bool :=
  (Option.bind (r20_valid_g l d p) (fun vv => (bif vv then (Option.bind (r20_accept_g l d p b) (fun av => some av)) else some false)))
theorem r20_Accept_w (l : (List TSlice)) (d : (List Df)) (p : TProduct) (b : Bx) (r : Bool) (h : r20_Accept_g l d p b = some r) : Holds Try.prog 20 [((encL encTSlice) l), ((encL encDf) d), (encTProduct p), (encBx b)] [] (B r) [] := by
  unfold r20_Accept_g at h
  refine holds_fn Try.func20 rfl Try.ntmps20 rfl rfl rfl ?_
  refine awp_seq ?_
  refine awp_go hmix ?_
  refine go_run' ttok 3 rfl ?_
  refine go_nil nd ?_
  refine then_norm ?_
  refine awp_seq ?_
  refine awp_go hmix ?_
  refine go_run' ttok 3 rfl ?_
  obtain ⟨vv, hv1, h⟩ := of_obind h
  refine go_call fn41 (r20_valid_w l d p vv hv1) rfl rfl rfl rfl rfl rfl rfl ?_
  refine go_run' ttok 1 rfl ?_
  refine go_gcase rfl rfl rfl (fun g2 => ?_) (fun g2 => ?_)
  · rw [g2]
    replace h := of_bif_t h g2
    refine go_run' ttok 4 rfl ?_
    obtain ⟨av, hv3, h⟩ := of_obind h
    refine go_call fn42 (r20_accept_w l d p b av hv3) rfl rfl rfl rfl rfl rfl rfl ?_
    refine go_run' ttok 2 rfl ?_
    refine go_nil nd ?_
    refine then_norm ?_
    refine awp_ret ?_
    have e4 := of_some h
    subst e4
    refine ret_ret ?_
    refine fin0 ttok rfl rfl ?_
    exact (wkP_refl _ rfl)
  · rw [g2]
    replace h := of_bif_f h g2
    refine go_run' ttok 7 rfl ?_
    refine go_nil nd ?_
    refine then_norm ?_
    refine awp_ret ?_
    have e5 := of_some h
    subst e5
    refine ret_ret ?_
    refine fin0 ttok rfl rfl ?_
    exact (wkP_refl _ rfl)

noncomputable def r20_value_s1 (d : (List Df)) (b : Bx) (fine : Int) (n1 : Int) (i : Int) : Option ((Int × Int) ⊕ Int) :=
  (bif (decide (i < ((d.length : Nat) : Int))) then (Option.bind (getI d i) (fun e => (bif (r13_Touches_g e b) then some (Sum.inl ((W64 (n1 - fine)), (W64 (i + 1)))) else some (Sum.inl (n1, (W64 (i + 1))))))) else some (Sum.inr n1))
/-- sawmill/sawmillref20.value -/
noncomputable def r20_value_g (d : (List Df)) (p : TProduct) (b : Bx) (fine : Int) : Option Int :=
  (Option.bind (r19_Price_g p (W64 (b.z.b - b.z.a))) (fun pv => (Option.bind ((loopO (fun q => r20_value_s1 d b fine q.1 q.2) (pv.1, 0)) : Option Int) (fun n => some (max 0 n)))))
theorem r20_value_w (d : (List Df)) (p : TProduct) (b : Bx) (fine : Int) (r : Int) (h : r20_value_g d p b fine = some r) : Holds Try.prog 40 [((encL encDf) d), (encTProduct p), (encBx b), (I fine)] [] (I r) [] := by
  unfold r20_value_g at h
  refine holds_fn Try.func40 rfl Try.ntmps40 rfl rfl rfl ?_
  refine awp_seq ?_
  refine awp_go hmix ?_
  refine go_run' ttok 3 rfl ?_
  refine go_nil nd ?_
  refine then_norm ?_
  refine awp_seq ?_
  refine awp_go hmix ?_
  refine go_run' ttok 8 rfl ?_
  obtain ⟨pv, hv1, h⟩ := of_obind h
  refine go_call fn56 (r19_Price_w p (W64 (b.z.b - b.z.a)) pv hv1) rfl rfl rfl rfl rfl rfl rfl ?_
  refine go_run' ttok 5 rfl ?_
  refine go_nil nd ?_
  refine then_norm ?_
  obtain ⟨y, hx2, h⟩ := of_obind h
  refine awp_seqJ (X := Int) [] [] (fun w => [(9, (I w))]) (fun w => []) (fun w => w = y) rfl rfl ?_ ?_
  · skip
    refine awp_seq ?_
    refine awp_go hmix ?_
    refine go_run' ttok 1 rfl ?_
    refine go_nil nd ?_
    refine then_norm ?_
    refine awp_block ?_
    refine awp_loopD (X := (Int × Int)) (Y := Int) [0, 3, 6] [6] (fun q => [(9, (I q.1)), (11, (I q.2))]) (fun q => []) (fun q => r20_value_s1 d b fine q.1 q.2) (pv.1, 0) [(6, some 6)] hx2 ⟨rfl, rfl, rfl, rfl, rfl, ⟨wkP_id _ rfl, wkP_id _ rfl, trivial⟩, trivial⟩ (fun x vR vz hz4 hk5 => ?_)
    obtain ⟨n1, i⟩ := x
    change r20_value_s1 d b fine n1 i = _ at hz4
    unfold r20_value_s1 at hz4
    refine awp_seq ?_
    refine awp_seq ?_
    refine awp_go hmix ?_
    refine go_run' ttok 2 rfl ?_
    refine go_lenT encDf d ttok rfl rfl rfl rfl rfl rfl ?_
    refine go_run' ttok 1 rfl ?_
    refine go_nil nd ?_
    refine then_norm ?_
    refine awp_cond (b := (decide (i < ((d.length : Nat) : Int)))) rfl (fun c6 => ?_) (fun c6 => ?_)
    · replace hz4 := of_bif_t hz4 c6
      refine awp_skip ?_
      refine then_norm ?_
      refine awp_seq ?_
      refine awp_block ?_
      refine awp_seq ?_
      refine awp_go hmix ?_
      refine go_run' ttok 2 rfl ?_
      obtain ⟨e, hv7, hz4⟩ := of_obind hz4
      refine go_indexT encDf d i e hv7 ttok rfl rfl rfl rfl rfl rfl rfl rfl rfl ?_
      refine go_run' ttok 2 rfl ?_
      refine go_call fn57 (r13_Touches_w e b _ rfl) rfl rfl rfl rfl rfl rfl rfl ?_
      refine go_nil (fun _ => by kernel_rfl) ?_
      refine then_norm ?_
      refine awp_cond (b := (r13_Touches_g e b)) rfl (fun c8 => ?_) (fun c8 => ?_)
      · replace hz4 := of_bif_t hz4 c8
        refine awp_go hmix ?_
        refine go_run' ttok 4 rfl ?_
        refine go_nil nd ?_
        refine block_norm ?_
        refine then_norm ?_
        refine awp_go hmix ?_
        refine go_run' ttok 3 rfl ?_
        refine go_nil nd ?_
        have e9 := of_some hz4
        subst e9
        refine then_norm ⟨rfl, ((W64 (n1 - fine)), (W64 (i + 1))), [(6, some 6)], ⟨rfl, rfl, rfl, rfl, rfl, ⟨wkP_id _ rfl, wkP_id _ rfl, trivial⟩, trivial⟩, hk5⟩
      · replace hz4 := of_bif_f hz4 c8
        refine awp_skip ?_
        refine block_norm ?_
        refine then_norm ?_
        refine awp_go hmix ?_
        refine go_run' ttok 3 rfl ?_
        refine go_nil nd ?_
        have e10 := of_some hz4
        subst e10
        refine then_norm ⟨rfl, (n1, (W64 (i + 1))), [(6, some 6)], ⟨rfl, rfl, rfl, rfl, rfl, ⟨wkP_id _ rfl, wkP_id _ rfl, trivial⟩, trivial⟩, hk5⟩
    · replace hz4 := of_bif_f hz4 c6
      refine awp_exit ?_
      refine then_exit ?_
      obtain ⟨t, hn11, hq⟩ := of_mapr' hz4
      subst hq
      have hq : t = _ := hk5
      subst hq
      refine then_exit ?_
      refine block_here ?_
      have e12 := of_some hn11
      refine then_norm ⟨rfl, n1, [], ⟨rfl, rfl, rfl, rfl, rfl, ⟨wkP_id _ rfl, trivial⟩, trivial⟩, e12⟩
  · intro n hw3
    subst hw3
    refine awp_seq ?_
    refine awp_go hmix ?_
    refine go_run' ttok 3 rfl ?_
    refine go_nil nd ?_
    refine then_norm ?_
    refine awp_ret ?_
    have e13 := of_some h
    subst e13
    refine ret_ret ?_
    refine fin0 ttok rfl rfl ?_
    exact (wkP_refl _ rfl)

/-- sawmill/sawmillref20.Worth -/
noncomputable def r20_Worth_g (l : (List TSlice)) (d : (List Df)) (p : TProduct) (b : Bx) (fine : Int) : Option (Int × Bool) :=
  (bif (!(r20_from_g fine 0 1000000)) then some (0, false) else (Option.bind (r20_Accept_g l d p b) (fun av => (bif (!av) then some (0, false) else (Option.bind (r20_value_g d p b fine) (fun vv => some (vv, true)))))))
theorem r20_Worth_w (l : (List TSlice)) (d : (List Df)) (p : TProduct) (b : Bx) (fine : Int) (r : (Int × Bool)) (h : r20_Worth_g l d p b fine = some r) : Holds Try.prog 18 [((encL encTSlice) l), ((encL encDf) d), (encTProduct p), (encBx b), (I fine)] [] (.tup [(I r.1), (B r.2)]) [] := by
  unfold r20_Worth_g at h
  refine holds_fn Try.func18 rfl Try.ntmps18 rfl rfl rfl ?_
  refine awp_seq ?_
  refine awp_go hmix ?_
  refine go_run' ttok 4 rfl ?_
  refine go_nil nd ?_
  refine then_norm ?_
  refine awp_seq ?_
  refine awp_seq ?_
  refine awp_go hmix ?_
  refine go_run' ttok 1 rfl ?_
  refine go_call fn31 (r20_from_w fine 0 1000000 _ rfl) rfl rfl rfl rfl rfl rfl rfl ?_
  refine go_run' ttok 2 rfl ?_
  refine go_gcase rfl rfl rfl (fun g1 => ?_) (fun g1 => ?_)
  · rw [g1]
    replace h := of_bif_t h g1
    refine go_run' ttok 7 rfl ?_
    refine go_nil nd ?_
    refine then_norm ?_
    refine awp_cond rfl (fun tt0 => ?_) (fun h => by cases h)
    clear tt0
    refine awp_seq ?_
    refine awp_go hmix ?_
    refine go_run' ttok 2 rfl ?_
    refine go_nil nd ?_
    refine then_norm ?_
    refine awp_ret ?_
    refine then_ret ?_
    have e2 := of_some h
    subst e2
    refine ret_ret ?_
    refine fin0 ttok rfl rfl ?_
    exact wkP_refl _ rfl
  · rw [g1]
    replace h := of_bif_f h g1
    refine go_run' ttok 4 rfl ?_
    obtain ⟨av, hv3, h⟩ := of_obind h
    refine go_call fn20 (r20_Accept_w l d p b av hv3) rfl rfl rfl rfl rfl rfl rfl ?_
    refine go_run' ttok 2 rfl ?_
    refine go_nil nd ?_
    refine then_norm ?_
    refine awp_cond (b := (!av)) rfl (fun c4 => ?_) (fun c4 => ?_)
    · replace h := of_bif_t h c4
      refine awp_seq ?_
      refine awp_go hmix ?_
      refine go_run' ttok 2 rfl ?_
      refine go_nil nd ?_
      refine then_norm ?_
      refine awp_ret ?_
      refine then_ret ?_
      have e5 := of_some h
      subst e5
      refine ret_ret ?_
      refine fin0 ttok rfl rfl ?_
      exact wkP_refl _ rfl
    · replace h := of_bif_f h c4
      refine awp_skip ?_
      refine then_norm ?_
      refine awp_seq ?_
      refine awp_go hmix ?_
      refine go_run' ttok 4 rfl ?_
      obtain ⟨vv, hv6, h⟩ := of_obind h
      refine go_call fn40 (r20_value_w d p b fine vv hv6) rfl rfl rfl rfl rfl rfl rfl ?_
      refine go_run' ttok 2 rfl ?_
      refine go_nil nd ?_
      refine then_norm ?_
      refine awp_ret ?_
      have e7 := of_some h
      subst e7
      refine ret_ret ?_
      refine fin0 ttok rfl rfl ?_
      exact wkP_refl _ rfl

/-- sawmill/sawmilllaw20.WorthAccepts -/
noncomputable def l20_WorthAccepts_g (g : Tsawmilllaw20_Given) (b : Bx) : Option Bool :=
  (Option.bind (l20_Small_g g) (fun sv => (bif (!sv) then (Option.bind l20_awake_g (fun av => some av)) else (Option.bind (l20_of_g g b) (fun ov => (Option.bind (r20_Worth_g g.Solid g.Defects g.Product b g.Fine) (fun wv => (bif (ov.1 == wv.1) then (bif (ov.2 == wv.2) then (Option.bind (worth_Accept_g g.Solid g.Defects g.Product b) (fun av1 => (Option.bind (r20_Accept_g g.Solid g.Defects g.Product b) (fun av2 => (bif (av1 == av2) then (Option.bind l20_awake_g (fun av3 => some av3)) else some false))))) else some false) else some false))))))))
theorem l20_WorthAccepts_w (g : Tsawmilllaw20_Given) (b : Bx) (r : Bool) (h : l20_WorthAccepts_g g b = some r) : Holds Try.prog 5 [(encTsawmilllaw20_Given g), (encBx b)] [] (B r) [] := by
  unfold l20_WorthAccepts_g at h
  refine holds_fn Try.func5 rfl Try.ntmps5 rfl rfl rfl ?_
  refine awp_seq ?_
  refine awp_go hmix ?_
  refine go_run' ttok 3 rfl ?_
  refine go_nil nd ?_
  refine then_norm ?_
  refine awp_seq ?_
  refine awp_seq ?_
  refine awp_go hmix ?_
  refine go_run' ttok 1 rfl ?_
  obtain ⟨sv, hv1, h⟩ := of_obind h
  refine go_call fn14 (l20_Small_w g sv hv1) rfl rfl rfl rfl rfl rfl rfl ?_
  refine go_run' ttok 1 rfl ?_
  refine go_nil nd ?_
  refine then_norm ?_
  refine awp_cond (b := (!sv)) rfl (fun c2 => ?_) (fun c2 => ?_)
  · replace h := of_bif_t h c2
    refine awp_seq ?_
    refine awp_go hmix ?_
    obtain ⟨av, hv3, h⟩ := of_obind h
    refine go_call fn13 (l20_awake_w av hv3) rfl rfl rfl rfl rfl rfl rfl ?_
    refine go_run' ttok 1 rfl ?_
    refine go_nil nd ?_
    refine then_norm ?_
    refine awp_ret ?_
    refine then_ret ?_
    have e4 := of_some h
    subst e4
    refine ret_ret ?_
    refine fin0 ttok rfl rfl ?_
    exact (wkP_refl _ rfl)
  · replace h := of_bif_f h c2
    refine awp_skip ?_
    refine then_norm ?_
    refine awp_seq ?_
    refine awp_go hmix ?_
    refine go_run' ttok 2 rfl ?_
    obtain ⟨ov, hv5, h⟩ := of_obind h
    refine go_call fn17 (l20_of_w g b ov hv5) rfl rfl rfl rfl rfl rfl rfl ?_
    refine go_run' ttok 5 rfl ?_
    refine go_nil nd ?_
    refine then_norm ?_
    refine awp_seq ?_
    refine awp_go hmix ?_
    refine go_run' ttok 9 rfl ?_
    obtain ⟨wv, hv6, h⟩ := of_obind h
    refine go_call fn18 (r20_Worth_w g.Solid g.Defects g.Product b g.Fine wv hv6) rfl rfl rfl rfl rfl rfl rfl ?_
    refine go_run' ttok 5 rfl ?_
    refine go_nil nd ?_
    refine then_norm ?_
    refine awp_seq ?_
    refine awp_go hmix ?_
    refine go_run' ttok 4 rfl ?_
    refine go_gcase rfl rfl rfl (fun g7 => ?_) (fun g7 => ?_)
    · rw [g7]
      replace h := of_bif_t h g7
      refine go_run' ttok 2 rfl ?_
      refine go_step rfl (as_eqBool rfl (ttok _ _ rfl) rfl rfl rfl) rfl rfl rfl ?_
      refine go_run' ttok 2 rfl ?_
      refine go_gcase rfl rfl rfl (fun g8 => ?_) (fun g8 => ?_)
      · rw [g8]
        replace h := of_bif_t h g8
        refine go_run' ttok 7 rfl ?_
        obtain ⟨av1, hv9, h⟩ := of_obind h
        refine go_call fn19 (worth_Accept_w g.Solid g.Defects g.Product b av1 hv9) rfl rfl rfl rfl rfl rfl rfl ?_
        refine go_run' ttok 7 rfl ?_
        obtain ⟨av2, hv10, h⟩ := of_obind h
        refine go_call fn20 (r20_Accept_w g.Solid g.Defects g.Product b av2 hv10) rfl rfl rfl rfl rfl rfl rfl ?_
        refine go_step rfl (as_eqBool rfl (ttok _ _ rfl) rfl rfl rfl) rfl rfl rfl ?_
        refine go_run' ttok 2 rfl ?_
        refine go_gcase rfl rfl rfl (fun g11 => ?_) (fun g11 => ?_)
        · rw [g11]
          replace h := of_bif_t h g11
          obtain ⟨av3, hv12, h⟩ := of_obind h
          refine go_call fn13 (l20_awake_w av3 hv12) rfl rfl rfl rfl rfl rfl rfl ?_
          refine go_run' ttok 2 rfl ?_
          refine go_nil (fun _ => by kernel_rfl) ?_
          refine then_norm ?_
          refine awp_ret ?_
          have e13 := of_some h
          subst e13
          refine ret_ret ?_
          refine fin0 ttok rfl rfl ?_
          exact (wkP_refl _ rfl)
        · rw [g11]
          replace h := of_bif_f h g11
          refine go_run' ttok 3 rfl ?_
          refine go_nil (fun _ => by kernel_rfl) ?_
          refine then_norm ?_
          refine awp_ret ?_
          have e14 := of_some h
          subst e14
          refine ret_ret ?_
          refine fin0 ttok rfl rfl ?_
          exact (wkP_refl _ rfl)
      · rw [g8]
        replace h := of_bif_f h g8
        refine go_run' ttok 22 rfl ?_
        refine go_nil (fun _ => by kernel_rfl) ?_
        refine then_norm ?_
        refine awp_ret ?_
        have e15 := of_some h
        subst e15
        refine ret_ret ?_
        refine fin0 ttok rfl rfl ?_
        exact (wkP_refl _ rfl)
    · rw [g7]
      replace h := of_bif_f h g7
      refine go_run' ttok 27 rfl ?_
      refine go_nil (fun _ => by kernel_rfl) ?_
      refine then_norm ?_
      refine awp_ret ?_
      have e16 := of_some h
      subst e16
      refine ret_ret ?_
      refine fin0 ttok rfl rfl ?_
      exact (wkP_refl _ rfl)

/-- sawmill/sawmilllaw20.rare -/
noncomputable def l20_rare_g (step : Int) : Bool :=
  (bif (decide (step < 1)) then true else (decide (20 ≤ step)))
theorem l20_rare_w (step : Int) (r : Bool) (h : l20_rare_g step = r) : Holds Try.prog 21 [(I step)] [] (B r) [] := by
  unfold l20_rare_g at h
  refine holds_fn Try.func21 rfl Try.ntmps21 rfl rfl rfl ?_
  refine awp_seq ?_
  refine awp_go hmix ?_
  refine go_run' ttok 1 rfl ?_
  refine go_nil nd ?_
  refine then_norm ?_
  refine awp_seq ?_
  refine awp_go hmix ?_
  refine go_run' ttok 3 rfl ?_
  refine go_gcase rfl rfl rfl (fun g1 => ?_) (fun g1 => ?_)
  · rw [g1]
    replace h := of_bif_t h g1
    refine go_run' ttok 4 rfl ?_
    refine go_nil nd ?_
    refine then_norm ?_
    refine awp_ret ?_
    have e2 := h
    subst e2
    refine ret_ret ?_
    refine fin0 ttok rfl rfl ?_
    exact (wkP_refl _ rfl)
  · rw [g1]
    replace h := of_bif_f h g1
    refine go_run' ttok 4 rfl ?_
    refine go_nil nd ?_
    refine then_norm ?_
    refine awp_ret ?_
    have e3 := h
    subst e3
    refine ret_ret ?_
    refine fin0 ttok rfl rfl ?_
    exact (wkP_refl _ rfl)

noncomputable def r20_Best_s2 (l : (List TSlice)) (d : (List Df)) (p : TProduct) (vr : TRect) (fine : Int) (vz : Int) (most3 : Int) (found3 : Bool) (i : Int) (best3 : Sp) : Option ((Int × Bool × Int × Sp) ⊕ (Int × Bool × Sp)) :=
  (bif (decide (i < ((p.Lengths.length : Nat) : Int))) then (Option.bind (getI p.Lengths i) (fun e => (Option.bind (r20_accept_g l d p (⟨vr.X, vr.Y, (⟨vz, (W64 (vz + e))⟩ : Sp)⟩ : Bx)) (fun av => (bif (!av) then some (Sum.inl (most3, found3, (W64 (i + 1)), best3)) else (Option.bind (r20_value_g d p (⟨vr.X, vr.Y, (⟨vz, (W64 (vz + e))⟩ : Sp)⟩ : Bx) fine) (fun vv1 => (bif (!found3) then some (Sum.inl (vv1, true, (W64 (i + 1)), (⟨vz, (W64 (vz + e))⟩ : Sp))) else (bif (decide (most3 < vv1)) then some (Sum.inl (vv1, true, (W64 (i + 1)), (⟨vz, (W64 (vz + e))⟩ : Sp))) else some (Sum.inl (most3, found3, (W64 (i + 1)), best3))))))))))) else some (Sum.inr (most3, found3, best3)))
noncomputable def r20_Best_s1 (l : (List TSlice)) (d : (List Df)) (p : TProduct) (vr : TRect) (step : Int) (fine : Int) (most1 : Int) (found1 : Bool) (vz : Int) (best1 : Sp) : Option ((Int × Bool × Int × Sp) ⊕ (Int × Bool × Sp)) :=
  (Option.bind (r11_Length_g l) (fun lv => (bif (decide (vz < lv)) then (Option.bind ((loopO (fun q => r20_Best_s2 l d p vr fine vz q.1 q.2.1 q.2.2.1 q.2.2.2) (most1, found1, 0, best1)) : Option (Int × Bool × Sp)) (fun w2 => some (Sum.inl (w2.1, w2.2.1, (W64 (vz + step)), w2.2.2)))) else some (Sum.inr (most1, found1, best1)))))
/-- sawmill/sawmillref20.Best -/
noncomputable def r20_Best_g (l : (List TSlice)) (d : (List Df)) (p : TProduct) (vr : TRect) (step : Int) (fine : Int) : Option (Sp × Int × Bool) :=
  (bif (!(r20_from_g step 1 20000)) then some ((⟨0, 0⟩ : Sp), 0, false) else (bif (!(r20_from_g fine 0 1000000)) then some ((⟨0, 0⟩ : Sp), 0, false) else (Option.bind (r20_valid_g l d p) (fun vv => (bif (!vv) then some ((⟨0, 0⟩ : Sp), 0, false) else (Option.bind ((loopO (fun q => r20_Best_s1 l d p vr step fine q.1 q.2.1 q.2.2.1 q.2.2.2) (0, false, 0, (⟨0, 0⟩ : Sp))) : Option (Int × Bool × Sp)) (fun w3 => some (w3.2.2, w3.1, w3.2.1))))))))
theorem r20_Best_w (l : (List TSlice)) (d : (List Df)) (p : TProduct) (vr : TRect) (step : Int) (fine : Int) (r : (Sp × Int × Bool)) (h : r20_Best_g l d p vr step fine = some r) : Holds Try.prog 23 [((encL encTSlice) l), ((encL encDf) d), (encTProduct p), (encTRect vr), (I step), (I fine)] [] (.tup [(encSp r.1), (I r.2.1), (B r.2.2)]) [] := by
  unfold r20_Best_g at h
  refine holds_fn Try.func23 rfl Try.ntmps23 rfl rfl rfl ?_
  refine awp_seq ?_
  refine awp_go hmix ?_
  refine go_run' ttok 5 rfl ?_
  refine go_nil nd ?_
  refine then_norm ?_
  refine awp_seq ?_
  refine awp_seq ?_
  refine awp_go hmix ?_
  refine go_run' ttok 1 rfl ?_
  refine go_call fn31 (r20_from_w step 1 20000 _ rfl) rfl rfl rfl rfl rfl rfl rfl ?_
  refine go_run' ttok 2 rfl ?_
  refine go_gcase rfl rfl rfl (fun g1 => ?_) (fun g1 => ?_)
  · rw [g1]
    replace h := of_bif_t h g1
    refine go_run' ttok 11 rfl ?_
    refine go_nil nd ?_
    refine then_norm ?_
    refine awp_cond rfl (fun tt0 => ?_) (fun h => by cases h)
    clear tt0
    refine awp_seq ?_
    refine awp_go hmix ?_
    refine go_run' ttok 4 rfl ?_
    refine go_nil nd ?_
    refine then_norm ?_
    refine awp_ret ?_
    refine then_ret ?_
    have e2 := of_some h
    subst e2
    refine ret_ret ?_
    refine fin0 ttok rfl rfl ?_
    exact wkP_refl _ rfl
  · rw [g1]
    replace h := of_bif_f h g1
    refine go_run' ttok 1 rfl ?_
    refine go_call fn31 (r20_from_w fine 0 1000000 _ rfl) rfl rfl rfl rfl rfl rfl rfl ?_
    refine go_run' ttok 3 rfl ?_
    refine go_gcase rfl rfl rfl (fun g3 => ?_) (fun g3 => ?_)
    · rw [g3]
      replace h := of_bif_t h g3
      refine go_run' ttok 6 rfl ?_
      refine go_nil nd ?_
      refine then_norm ?_
      refine awp_cond rfl (fun tt0 => ?_) (fun h => by cases h)
      clear tt0
      refine awp_seq ?_
      refine awp_go hmix ?_
      refine go_run' ttok 4 rfl ?_
      refine go_nil nd ?_
      refine then_norm ?_
      refine awp_ret ?_
      refine then_ret ?_
      have e4 := of_some h
      subst e4
      refine ret_ret ?_
      refine fin0 ttok rfl rfl ?_
      exact wkP_refl _ rfl
    · rw [g3]
      replace h := of_bif_f h g3
      refine go_run' ttok 3 rfl ?_
      obtain ⟨vv, hv5, h⟩ := of_obind h
      refine go_call fn41 (r20_valid_w l d p vv hv5) rfl rfl rfl rfl rfl rfl rfl ?_
      refine go_run' ttok 2 rfl ?_
      refine go_nil nd ?_
      refine then_norm ?_
      refine awp_cond (b := (!vv)) rfl (fun c6 => ?_) (fun c6 => ?_)
      · replace h := of_bif_t h c6
        refine awp_seq ?_
        refine awp_go hmix ?_
        refine go_run' ttok 4 rfl ?_
        refine go_nil nd ?_
        refine then_norm ?_
        refine awp_ret ?_
        refine then_ret ?_
        have e7 := of_some h
        subst e7
        refine ret_ret ?_
        refine fin0 ttok rfl rfl ?_
        exact wkP_refl _ rfl
      · replace h := of_bif_f h c6
        refine awp_skip ?_
        refine then_norm ?_
        refine awp_seq ?_
        refine awp_go hmix ?_
        refine go_run' ttok 5 rfl ?_
        refine go_nil nd ?_
        refine then_norm ?_
        obtain ⟨y, hx8, h⟩ := of_obind h
        refine awp_seqJ (X := (Int × Bool × Sp)) [12, 15] [12] (fun w => [(16, (I w.1)), (17, (B w.2.1))]) (fun w => [(15, some ⟨32, 2, [(.agg [(I w.2.2.a), (I w.2.2.b)])]⟩)]) (fun w => w = y) rfl rfl ?_ ?_
        · skip
          refine awp_seq ?_
          refine awp_go hmix ?_
          refine go_run' ttok 1 rfl ?_
          refine go_nil nd ?_
          refine then_norm ?_
          refine awp_block ?_
          refine awp_loopD (X := (Int × Bool × Int × Sp)) (Y := (Int × Bool × Sp)) [0, 1, 4, 5, 8, 9, 12, 15] [8, 9, 12] (fun q => [(16, (I q.1)), (17, (B q.2.1)), (18, (I q.2.2.1))]) (fun q => [(15, some ⟨32, 2, [(.agg [(I q.2.2.2.a), (I q.2.2.2.b)])]⟩)]) (fun q => r20_Best_s1 l d p vr step fine q.1 q.2.1 q.2.2.1 q.2.2.2) (0, false, 0, (⟨0, 0⟩ : Sp)) [(15, some 15), (8, some 8), (9, some 9), (12, some 12)] hx8 ⟨rfl, rfl, rfl, rfl, rfl, ⟨wkP_id _ rfl, wkP_id _ rfl, wkP_id _ rfl, trivial⟩, ⟨⟨_, rfl, rfl, rfl, .inl ⟨rfl, nr_one rfl⟩⟩, trivial⟩⟩ (fun x vR vz1 hz10 hk11 => ?_)
          obtain ⟨most1, found1, vz, best1⟩ := x
          change r20_Best_s1 l d p vr step fine most1 found1 vz best1 = _ at hz10
          unfold r20_Best_s1 at hz10
          refine awp_seq ?_
          refine awp_seq ?_
          refine awp_go hmix ?_
          refine go_run' ttok 2 rfl ?_
          obtain ⟨lv, hv12, hz10⟩ := of_obind hz10
          refine go_call fn44 (r11_Length_w l lv hv12) rfl rfl rfl rfl rfl rfl rfl ?_
          refine go_run' ttok 1 rfl ?_
          refine go_nil nd ?_
          refine then_norm ?_
          refine awp_cond (b := (decide (vz < lv))) rfl (fun c13 => ?_) (fun c13 => ?_)
          · replace hz10 := of_bif_t hz10 c13
            refine awp_skip ?_
            refine then_norm ?_
            obtain ⟨y1, hx14, hz10⟩ := of_obind hz10
            refine awp_seqJ (X := (Int × Bool × Sp)) [0, 1, 4, 5, 8, 9, 12, 15, 18] [8, 9, 12] (fun w1 => [(16, (I w1.1)), (17, (B w1.2.1))]) (fun w1 => [(15, some ⟨32, 2, [(.agg [(I w1.2.2.a), (I w1.2.2.b)])]⟩)]) (fun w1 => w1 = y1) rfl rfl ?_ ?_
            · skip
              refine awp_block ?_
              refine awp_seq ?_
              refine awp_go hmix ?_
              refine go_run' ttok 1 rfl ?_
              refine go_nil nd ?_
              refine then_norm ?_
              refine awp_block ?_
              refine awp_loopD (X := (Int × Bool × Int × Sp)) (Y := (Int × Bool × Sp)) [0, 1, 4, 5, 8, 9, 12, 15, 18] [8, 9, 12] (fun q => [(16, (I q.1)), (17, (B q.2.1)), (19, (I q.2.2.1))]) (fun q => [(15, some ⟨32, 2, [(.agg [(I q.2.2.2.a), (I q.2.2.2.b)])]⟩)]) (fun q => r20_Best_s2 l d p vr fine vz q.1 q.2.1 q.2.2.1 q.2.2.2) (most1, found1, 0, best1) [(15, some 15), (8, some 8), (9, some 9), (12, some 12)] hx14 ⟨rfl, rfl, rfl, rfl, rfl, ⟨wkP_id _ rfl, wkP_id _ rfl, wkP_id _ rfl, trivial⟩, ⟨⟨_, rfl, rfl, rfl, .inl ⟨rfl, nr_one rfl⟩⟩, trivial⟩⟩ (fun x1 vR1 vz2 hz16 hk17 => ?_)
              obtain ⟨most3, found3, i, best3⟩ := x1
              change r20_Best_s2 l d p vr fine vz most3 found3 i best3 = _ at hz16
              unfold r20_Best_s2 at hz16
              refine awp_seq ?_
              refine awp_seq ?_
              refine awp_go hmix ?_
              refine go_run' ttok 3 rfl ?_
              refine go_lenT I p.Lengths ttok rfl rfl rfl rfl rfl rfl ?_
              refine go_run' ttok 1 rfl ?_
              refine go_nil nd ?_
              refine then_norm ?_
              refine awp_cond (b := (decide (i < ((p.Lengths.length : Nat) : Int)))) rfl (fun c18 => ?_) (fun c18 => ?_)
              · replace hz16 := of_bif_t hz16 c18
                refine awp_skip ?_
                refine then_norm ?_
                refine awp_seq ?_
                refine awp_block ?_
                refine awp_seq ?_
                refine awp_go hmix ?_
                refine go_run' ttok 9 rfl ?_
                obtain ⟨e, hv19, hz16⟩ := of_obind hz16
                refine go_indexT I p.Lengths i e hv19 ttok rfl rfl rfl rfl rfl rfl rfl rfl rfl ?_
                refine go_run' ttok 6 rfl ?_
                refine go_nil (fun _ => by kernel_rfl) ?_
                refine then_norm ?_
                refine awp_seq ?_
                refine awp_seq ?_
                refine awp_go hmix ?_
                refine go_run' ttok 4 rfl ?_
                obtain ⟨av, hv20, hz16⟩ := of_obind hz16
                refine go_call fn42 (r20_accept_w l d p (⟨vr.X, vr.Y, (⟨vz, (W64 (vz + e))⟩ : Sp)⟩ : Bx) av hv20) rfl rfl rfl rfl rfl rfl rfl ?_
                refine go_run' ttok 1 rfl ?_
                refine go_nil nd ?_
                refine then_norm ?_
                refine awp_cond (b := (!av)) rfl (fun c21 => ?_) (fun c21 => ?_)
                · replace hz16 := of_bif_t hz16 c21
                  refine awp_exit ?_
                  refine then_exit ?_
                  refine block_here ?_
                  refine then_norm ?_
                  refine awp_go hmix ?_
                  refine go_run' ttok 3 rfl ?_
                  refine go_nil nd ?_
                  have e22 := of_some hz16
                  subst e22
                  refine then_norm ⟨rfl, (most3, found3, (W64 (i + 1)), best3), [(15, some 15), (8, some 8), (9, some 9), (12, some 12)], ⟨rfl, rfl, rfl, rfl, rfl, ⟨wkP_id _ rfl, wkP_id _ rfl, wkP_id _ rfl, trivial⟩, ⟨⟨_, rfl, rfl, rfl, .inl ⟨rfl, nr_one rfl⟩⟩, trivial⟩⟩, hk17⟩
                · replace hz16 := of_bif_f hz16 c21
                  refine awp_skip ?_
                  refine then_norm ?_
                  refine awp_seq ?_
                  refine awp_go hmix ?_
                  refine go_run' ttok 4 rfl ?_
                  obtain ⟨vv1, hv23, hz16⟩ := of_obind hz16
                  refine go_call fn40 (r20_value_w d p (⟨vr.X, vr.Y, (⟨vz, (W64 (vz + e))⟩ : Sp)⟩ : Bx) fine vv1 hv23) rfl rfl rfl rfl rfl rfl rfl ?_
                  refine go_run' ttok 1 rfl ?_
                  refine go_nil nd ?_
                  refine then_norm ?_
                  refine awp_seq ?_
                  refine awp_go hmix ?_
                  refine go_run' ttok 3 rfl ?_
                  refine go_gcase rfl rfl rfl (fun g24 => ?_) (fun g24 => ?_)
                  · rw [g24]
                    replace hz16 := of_bif_t hz16 g24
                    refine go_run' ttok 4 rfl ?_
                    refine go_nil nd ?_
                    refine then_norm ?_
                    refine awp_cond rfl (fun tt0 => ?_) (fun h => by cases h)
                    clear tt0
                    refine awp_go hmix ?_
                    refine go_run' ttok 6 rfl ?_
                    refine go_nil nd ?_
                    refine block_norm ?_
                    refine then_norm ?_
                    refine awp_go hmix ?_
                    refine go_run' ttok 3 rfl ?_
                    refine go_nil nd ?_
                    have e25 := of_some hz16
                    subst e25
                    refine then_norm ⟨rfl, (vv1, true, (W64 (i + 1)), (⟨vz, (W64 (vz + e))⟩ : Sp)), [(15, some 15), (8, some 8), (9, some 9), (12, some 12)], ⟨rfl, rfl, rfl, rfl, rfl, ⟨wkP_id _ rfl, wkP_id _ rfl, wkP_id _ rfl, trivial⟩, ⟨⟨_, rfl, rfl, rfl, .inl ⟨rfl, nr_one rfl⟩⟩, trivial⟩⟩, hk17⟩
                  · rw [g24]
                    replace hz16 := of_bif_f hz16 g24
                    refine go_run' ttok 4 rfl ?_
                    refine go_nil nd ?_
                    refine then_norm ?_
                    refine awp_cond (b := (decide (most3 < vv1))) rfl (fun c26 => ?_) (fun c26 => ?_)
                    · replace hz16 := of_bif_t hz16 c26
                      refine awp_go hmix ?_
                      refine go_run' ttok 6 rfl ?_
                      refine go_nil nd ?_
                      refine block_norm ?_
                      refine then_norm ?_
                      refine awp_go hmix ?_
                      refine go_run' ttok 3 rfl ?_
                      refine go_nil nd ?_
                      have e27 := of_some hz16
                      subst e27
                      refine then_norm ⟨rfl, (vv1, true, (W64 (i + 1)), (⟨vz, (W64 (vz + e))⟩ : Sp)), [(15, some 15), (8, some 8), (9, some 9), (12, some 12)], ⟨rfl, rfl, rfl, rfl, rfl, ⟨wkP_id _ rfl, wkP_id _ rfl, wkP_id _ rfl, trivial⟩, ⟨⟨_, rfl, rfl, rfl, .inl ⟨rfl, nr_one rfl⟩⟩, trivial⟩⟩, hk17⟩
                    · replace hz16 := of_bif_f hz16 c26
                      refine awp_skip ?_
                      refine block_norm ?_
                      refine then_norm ?_
                      refine awp_go hmix ?_
                      refine go_run' ttok 3 rfl ?_
                      refine go_nil nd ?_
                      have e28 := of_some hz16
                      subst e28
                      refine then_norm ⟨rfl, (most3, found3, (W64 (i + 1)), best3), [(15, some 15), (8, some 8), (9, some 9), (12, some 12)], ⟨rfl, rfl, rfl, rfl, rfl, ⟨wkP_id _ rfl, wkP_id _ rfl, wkP_id _ rfl, trivial⟩, ⟨⟨_, rfl, rfl, rfl, .inl ⟨rfl, nr_one rfl⟩⟩, trivial⟩⟩, hk17⟩
              · replace hz16 := of_bif_f hz16 c18
                refine awp_exit ?_
                refine then_exit ?_
                obtain ⟨t, hn29, hq⟩ := of_mapr' hz16
                subst hq
                have hq : t = _ := hk17
                subst hq
                refine then_exit ?_
                refine block_here ?_
                refine block_norm ?_
                have e30 := of_some hn29
                refine then_norm ⟨rfl, (most3, found3, best3), [(15, some 15), (8, some 8), (9, some 9), (12, some 12)], ⟨rfl, rfl, rfl, rfl, rfl, ⟨wkP_id _ rfl, wkP_id _ rfl, trivial⟩, ⟨⟨_, rfl, rfl, rfl, .inl ⟨rfl, nr_one rfl⟩⟩, trivial⟩⟩, e30⟩
            · intro w1 hw15
              subst hw15
              obtain ⟨most2, found2, best2⟩ := w1
              refine awp_go hmix ?_
              refine go_run' ttok 4 rfl ?_
              refine go_nil nd ?_
              have e31 := of_some hz10
              subst e31
              refine then_norm ⟨rfl, (most2, found2, (W64 (vz + step)), best2), [(15, some 15), (8, some 8), (9, some 9), (12, some 12)], ⟨rfl, rfl, rfl, rfl, rfl, ⟨wkP_id _ rfl, wkP_id _ rfl, wkP_id _ rfl, trivial⟩, ⟨⟨_, rfl, rfl, rfl, .inl ⟨rfl, nr_one rfl⟩⟩, trivial⟩⟩, hk11⟩
          · replace hz10 := of_bif_f hz10 c13
            refine awp_exit ?_
            refine then_exit ?_
            obtain ⟨t1, hn32, hq⟩ := of_mapr' hz10
            subst hq
            have hq : t1 = _ := hk11
            subst hq
            refine then_exit ?_
            refine block_here ?_
            have e33 := of_some hn32
            refine then_norm ⟨rfl, (most1, found1, best1), [(15, some 15), (12, some 12)], ⟨rfl, rfl, rfl, rfl, rfl, ⟨wkP_id _ rfl, wkP_id _ rfl, trivial⟩, ⟨⟨_, rfl, rfl, rfl, .inl ⟨rfl, nr_one rfl⟩⟩, trivial⟩⟩, e33⟩
        · intro w hw9
          subst hw9
          obtain ⟨most, found, best⟩ := w
          refine awp_seq ?_
          refine awp_go hmix ?_
          refine go_run' ttok 6 rfl ?_
          refine go_nil nd ?_
          refine then_norm ?_
          refine awp_ret ?_
          have e34 := of_some h
          subst e34
          refine ret_ret ?_
          refine fin0 ttok rfl rfl ?_
          exact wkP_refl _ rfl

/-- sawmill/sawmilllaw20.WorthBests -/
noncomputable def l20_WorthBests_g (g : Tsawmilllaw20_Given) (vr : TRect) (step : Int) : Option Bool :=
  (Option.bind (l20_Small_g g) (fun sv => (bif (!sv) then (Option.bind l20_awake_g (fun av => some av)) else (bif (!(l20_rare_g step)) then (Option.bind l20_awake_g (fun av1 => some av1)) else (Option.bind (l20_best_g g vr step) (fun bv => (Option.bind (r20_Best_g g.Solid g.Defects g.Product vr step g.Fine) (fun bv1 => (bif (eqV encSp bv.1 bv1.1) then (bif (bv.2.1 == bv1.2.1) then (bif (bv.2.2 == bv1.2.2) then (Option.bind l20_awake_g (fun av2 => some av2)) else some false) else some false) else some false)))))))))
theorem l20_WorthBests_w (g : Tsawmilllaw20_Given) (vr : TRect) (step : Int) (r : Bool) (h : l20_WorthBests_g g vr step = some r) : Holds Try.prog 6 [(encTsawmilllaw20_Given g), (encTRect vr), (I step)] [] (B r) [] := by
  unfold l20_WorthBests_g at h
  refine holds_fn Try.func6 rfl Try.ntmps6 rfl rfl rfl ?_
  refine awp_seq ?_
  refine awp_go hmix ?_
  refine go_run' ttok 3 rfl ?_
  refine go_nil nd ?_
  refine then_norm ?_
  refine awp_seq ?_
  refine awp_seq ?_
  refine awp_go hmix ?_
  refine go_run' ttok 1 rfl ?_
  obtain ⟨sv, hv1, h⟩ := of_obind h
  refine go_call fn14 (l20_Small_w g sv hv1) rfl rfl rfl rfl rfl rfl rfl ?_
  refine go_run' ttok 2 rfl ?_
  refine go_gcase rfl rfl rfl (fun g2 => ?_) (fun g2 => ?_)
  · rw [g2]
    replace h := of_bif_t h g2
    refine go_run' ttok 4 rfl ?_
    refine go_nil nd ?_
    refine then_norm ?_
    refine awp_cond rfl (fun tt0 => ?_) (fun h => by cases h)
    clear tt0
    refine awp_seq ?_
    refine awp_go hmix ?_
    obtain ⟨av, hv3, h⟩ := of_obind h
    refine go_call fn13 (l20_awake_w av hv3) rfl rfl rfl rfl rfl rfl rfl ?_
    refine go_run' ttok 1 rfl ?_
    refine go_nil nd ?_
    refine then_norm ?_
    refine awp_ret ?_
    refine then_ret ?_
    have e4 := of_some h
    subst e4
    refine ret_ret ?_
    refine fin0 ttok rfl rfl ?_
    exact (wkP_refl _ rfl)
  · rw [g2]
    replace h := of_bif_f h g2
    refine go_run' ttok 1 rfl ?_
    refine go_call fn21 (l20_rare_w step _ rfl) rfl rfl rfl rfl rfl rfl rfl ?_
    refine go_run' ttok 2 rfl ?_
    refine go_nil nd ?_
    refine then_norm ?_
    refine awp_cond (b := (!(l20_rare_g step))) rfl (fun c5 => ?_) (fun c5 => ?_)
    · replace h := of_bif_t h c5
      refine awp_seq ?_
      refine awp_go hmix ?_
      obtain ⟨av1, hv6, h⟩ := of_obind h
      refine go_call fn13 (l20_awake_w av1 hv6) rfl rfl rfl rfl rfl rfl rfl ?_
      refine go_run' ttok 1 rfl ?_
      refine go_nil nd ?_
      refine then_norm ?_
      refine awp_ret ?_
      refine then_ret ?_
      have e7 := of_some h
      subst e7
      refine ret_ret ?_
      refine fin0 ttok rfl rfl ?_
      exact (wkP_refl _ rfl)
    · replace h := of_bif_f h c5
      refine awp_skip ?_
      refine then_norm ?_
      refine awp_seq ?_
      refine awp_go hmix ?_
      refine go_run' ttok 3 rfl ?_
      obtain ⟨bv, hv8, h⟩ := of_obind h
      refine go_call fn22 (l20_best_w g vr step bv hv8) rfl rfl rfl rfl rfl rfl rfl ?_
      refine go_run' ttok 8 rfl ?_
      refine go_nil nd ?_
      refine then_norm ?_
      refine awp_seq ?_
      refine awp_go hmix ?_
      refine go_run' ttok 10 rfl ?_
      obtain ⟨bv1, hv9, h⟩ := of_obind h
      refine go_call fn23 (r20_Best_w g.Solid g.Defects g.Product vr step g.Fine bv1 hv9) rfl rfl rfl rfl rfl rfl rfl ?_
      refine go_run' ttok 8 rfl ?_
      refine go_nil nd ?_
      refine then_norm ?_
      refine awp_seq ?_
      refine awp_go hmix ?_
      refine go_run' ttok 2 rfl ?_
      refine go_step rfl (as_eqAgg shSp rfl eqT32_1 eqT32_2 (by decide) rfl rfl rfl rfl rfl) rfl rfl rfl ?_
      refine go_run' ttok 1 rfl ?_
      refine go_gcase rfl rfl rfl (fun g10 => ?_) (fun g10 => ?_)
      · rw [g10]
        replace h := of_bif_t h g10
        refine go_run' ttok 5 rfl ?_
        refine go_gcase rfl rfl rfl (fun g11 => ?_) (fun g11 => ?_)
        · rw [g11]
          replace h := of_bif_t h g11
          refine go_run' ttok 2 rfl ?_
          refine go_step rfl (as_eqBool rfl (ttok _ _ rfl) rfl rfl rfl) rfl rfl rfl ?_
          refine go_run' ttok 2 rfl ?_
          refine go_gcase rfl rfl rfl (fun g12 => ?_) (fun g12 => ?_)
          · rw [g12]
            replace h := of_bif_t h g12
            obtain ⟨av2, hv13, h⟩ := of_obind h
            refine go_call fn13 (l20_awake_w av2 hv13) rfl rfl rfl rfl rfl rfl rfl ?_
            refine go_run' ttok 2 rfl ?_
            refine go_nil nd ?_
            refine then_norm ?_
            refine awp_ret ?_
            have e14 := of_some h
            subst e14
            refine ret_ret ?_
            refine fin0 ttok rfl rfl ?_
            exact (wkP_refl _ rfl)
          · rw [g12]
            replace h := of_bif_f h g12
            refine go_run' ttok 3 rfl ?_
            refine go_nil nd ?_
            refine then_norm ?_
            refine awp_ret ?_
            have e15 := of_some h
            subst e15
            refine ret_ret ?_
            refine fin0 ttok rfl rfl ?_
            exact (wkP_refl _ rfl)
        · rw [g11]
          replace h := of_bif_f h g11
          refine go_run' ttok 8 rfl ?_
          refine go_nil nd ?_
          refine then_norm ?_
          refine awp_ret ?_
          have e16 := of_some h
          subst e16
          refine ret_ret ?_
          refine fin0 ttok rfl rfl ?_
          exact (wkP_refl _ rfl)
      · rw [g10]
        replace h := of_bif_f h g10
        refine go_run' ttok 13 rfl ?_
        refine go_nil nd ?_
        refine then_norm ?_
        refine awp_ret ?_
        have e17 := of_some h
        subst e17
        refine ret_ret ?_
        refine fin0 ttok rfl rfl ?_
        exact (wkP_refl _ rfl)

/-- sawmill/sawmilllaw20.WorthBest -/
noncomputable def l20_WorthBest_g (g : Tsawmilllaw20_Given) (vr : TRect) (vat : (Int × Int × Int)) : Option Bool :=
  (Option.bind (l20_Small_g g) (fun sv => (bif (!sv) then (Option.bind l20_awake_g (fun av => some av)) else (bif (!(l20_rare_g vat.1)) then (Option.bind l20_awake_g (fun av1 => some av1)) else (Option.bind (l20_best_g g vr vat.1) (fun bv => (Option.bind (l20_of_g g (⟨vr.X, vr.Y, bv.1⟩ : Bx)) (fun ov => (Option.bind ((bif bv.2.2 then (bif (!ov.2) then some (Sum.inl false) else (bif (ov.1 != bv.2.1) then some (Sum.inl false) else (bif (decide (vat.1 < 1)) then some (Sum.inl false) else (bif (vat.1 != 0) then (bif ((Int.tmod bv.1.a vat.1) != 0) then some (Sum.inl false) else some (Sum.inr true)) else none)))) else some (Sum.inr false)) : Option (Bool ⊕ Bool)) (Sum.elim (fun q => some q) (fun ok => (Option.bind ((bif (!ok) then (bif (bv.2.1 != 0) then some (Sum.inl false) else (bif (!(eqV encSp bv.1 (⟨0, 0⟩ : Sp))) then some (Sum.inl false) else some (Sum.inr ()))) else some (Sum.inr ())) : Option (Bool ⊕ Unit)) (Sum.elim (fun q => some q) (fun _ => (bif (decide (vat.1 < 1)) then (Option.bind l20_awake_g (fun av2 => some av2)) else (bif (decide (20000 < vat.1)) then (Option.bind l20_awake_g (fun av3 => some av3)) else (bif (decide (vat.2.1 < 0)) then (Option.bind l20_awake_g (fun av4 => some av4)) else (bif (decide (20000 < vat.2.1)) then (Option.bind l20_awake_g (fun av5 => some av5)) else (bif (((g.Product.Lengths.length : Nat) : Int) == 0) then (Option.bind l20_awake_g (fun av6 => some av6)) else (bif (vat.1 != 0) then (bif ((WU64 ((g.Product.Lengths.length : Nat) : Int)) != 0) then (Option.bind (getI g.Product.Lengths (W64 (Int.tmod (WU64 vat.2.2) (WU64 ((g.Product.Lengths.length : Nat) : Int))))) (fun e => (bif (decide (e < 0)) then (Option.bind l20_awake_g (fun av7 => some av7)) else (bif (decide (20000 < e)) then (Option.bind l20_awake_g (fun av8 => some av8)) else (Option.bind (l20_of_g g (⟨vr.X, vr.Y, (⟨(W64 ((W64 (Int.tdiv vat.2.1 vat.1)) * vat.1)), (W64 ((W64 ((W64 (Int.tdiv vat.2.1 vat.1)) * vat.1)) + e))⟩ : Sp)⟩ : Bx)) (fun ov1 => (bif (!ov1.2) then (bif (ov1.1 == 0) then (Option.bind l20_awake_g (fun av9 => some av9)) else some false) else (bif (!ok) then some false else (bif (decide (bv.2.1 < ov1.1)) then some false else (bif (decide (ov1.1 < bv.2.1)) then (Option.bind l20_awake_g (fun av10 => some av10)) else (bif (decide (bv.1.a < (W64 ((W64 (Int.tdiv vat.2.1 vat.1)) * vat.1)))) then (Option.bind l20_awake_g (fun av11 => some av11)) else (bif (bv.1.a == (W64 ((W64 (Int.tdiv vat.2.1 vat.1)) * vat.1))) then (bif (decide (bv.1.b ≤ (W64 ((W64 ((W64 (Int.tdiv vat.2.1 vat.1)) * vat.1)) + e)))) then (Option.bind l20_awake_g (fun av12 => some av12)) else some false) else some false)))))))))))) else none) else none))))))))))))))))))))
theorem l20_WorthBest_w (g : Tsawmilllaw20_Given) (vr : TRect) (vat : (Int × Int × Int)) (r : Bool) (h : l20_WorthBest_g g vr vat = some r) : Holds Try.prog 7 [(encTsawmilllaw20_Given g), (encTRect vr), (.agg [(I vat.1), (I vat.2.1), (I vat.2.2)])] [] (B r) [] := by
  unfold l20_WorthBest_g at h
  refine holds_fn Try.func7 rfl Try.ntmps7 rfl rfl rfl ?_
  refine awp_seq ?_
  refine awp_go hmix ?_
  refine go_run' ttok 4 rfl ?_
  refine go_nil nd ?_
  refine then_norm ?_
  refine awp_seq ?_
  refine awp_go hmix ?_
  refine go_run' ttok 3 rfl ?_
  refine go_nil nd ?_
  refine then_norm ?_
  refine awp_seq ?_
  refine awp_seq ?_
  refine awp_go hmix ?_
  refine go_run' ttok 1 rfl ?_
  obtain ⟨sv, hv1, h⟩ := of_obind h
  refine go_call fn14 (l20_Small_w g sv hv1) rfl rfl rfl rfl rfl rfl rfl ?_
  refine go_run' ttok 2 rfl ?_
  refine go_gcase rfl rfl rfl (fun g2 => ?_) (fun g2 => ?_)
  · rw [g2]
    replace h := of_bif_t h g2
    refine go_run' ttok 4 rfl ?_
    refine go_nil nd ?_
    refine then_norm ?_
    refine awp_cond rfl (fun tt0 => ?_) (fun h => by cases h)
    clear tt0
    refine awp_seq ?_
    refine awp_go hmix ?_
    obtain ⟨av, hv3, h⟩ := of_obind h
    refine go_call fn13 (l20_awake_w av hv3) rfl rfl rfl rfl rfl rfl rfl ?_
    refine go_run' ttok 1 rfl ?_
    refine go_nil nd ?_
    refine then_norm ?_
    refine awp_ret ?_
    refine then_ret ?_
    have e4 := of_some h
    subst e4
    refine ret_ret ?_
    refine fin0 ttok rfl rfl ?_
    exact (wkP_refl _ rfl)
  · rw [g2]
    replace h := of_bif_f h g2
    refine go_run' ttok 1 rfl ?_
    refine go_call fn21 (l20_rare_w vat.1 _ rfl) rfl rfl rfl rfl rfl rfl rfl ?_
    refine go_run' ttok 2 rfl ?_
    refine go_nil nd ?_
    refine then_norm ?_
    refine awp_cond (b := (!(l20_rare_g vat.1))) rfl (fun c5 => ?_) (fun c5 => ?_)
    · replace h := of_bif_t h c5
      refine awp_seq ?_
      refine awp_go hmix ?_
      obtain ⟨av1, hv6, h⟩ := of_obind h
      refine go_call fn13 (l20_awake_w av1 hv6) rfl rfl rfl rfl rfl rfl rfl ?_
      refine go_run' ttok 1 rfl ?_
      refine go_nil nd ?_
      refine then_norm ?_
      refine awp_ret ?_
      refine then_ret ?_
      have e7 := of_some h
      subst e7
      refine ret_ret ?_
      refine fin0 ttok rfl rfl ?_
      exact (wkP_refl _ rfl)
    · replace h := of_bif_f h c5
      refine awp_skip ?_
      refine then_norm ?_
      refine awp_seq ?_
      refine awp_go hmix ?_
      refine go_run' ttok 3 rfl ?_
      obtain ⟨bv, hv8, h⟩ := of_obind h
      refine go_call fn22 (l20_best_w g vr vat.1 bv hv8) rfl rfl rfl rfl rfl rfl rfl ?_
      refine go_run' ttok 8 rfl ?_
      refine go_nil nd ?_
      refine then_norm ?_
      refine awp_seq ?_
      refine awp_go hmix ?_
      refine go_run' ttok 7 rfl ?_
      obtain ⟨ov, hv9, h⟩ := of_obind h
      refine go_call fn17 (l20_of_w g (⟨vr.X, vr.Y, bv.1⟩ : Bx) ov hv9) rfl rfl rfl rfl rfl rfl rfl ?_
      refine go_run' ttok 5 rfl ?_
      refine go_nil nd ?_
      refine then_norm ?_
      obtain ⟨y, hx10, h⟩ := of_obind h
      refine awp_seqJ (X := Bool) [3, 4, 5, 7, 8, 9] [3, 4, 5, 8] (fun w => [(10, (B w))]) (fun w => []) (fun w => Sum.inr w = y) rfl rfl ?_ ?_
      · skip
        refine awp_seq ?_
        refine awp_go hmix ?_
        refine go_run' ttok 2 rfl ?_
        refine go_gcase rfl rfl rfl (fun g12 => ?_) (fun g12 => ?_)
        · rw [g12]
          replace hx10 := of_bif_t hx10 g12
          refine go_run' ttok 3 rfl ?_
          refine go_gcase rfl rfl rfl (fun g13 => ?_) (fun g13 => ?_)
          · rw [g13]
            replace hx10 := of_bif_t hx10 g13
            refine go_run' ttok 16 rfl ?_
            refine go_nil nd ?_
            refine then_norm ?_
            refine awp_cond rfl (fun tt0 => ?_) (fun h => by cases h)
            clear tt0
            refine awp_seq ?_
            refine awp_go hmix ?_
            refine go_run' ttok 1 rfl ?_
            refine go_nil nd ?_
            refine then_norm ?_
            refine awp_ret ?_
            obtain ⟨t, hn14, hq⟩ := of_mapl' hx10
            subst hq
            have hq := of_inl h
            replace hq := of_some hq
            subst hq
            refine then_ret ?_
            have e15 := of_some hn14
            subst e15
            refine ret_ret ?_
            refine fin0 ttok rfl rfl ?_
            exact (wkP_refl _ rfl)
          · rw [g13]
            replace hx10 := of_bif_f hx10 g13
            refine go_run' ttok 5 rfl ?_
            refine go_gcase rfl rfl rfl (fun g16 => ?_) (fun g16 => ?_)
            · rw [g16]
              replace hx10 := of_bif_t hx10 g16
              refine go_run' ttok 11 rfl ?_
              refine go_nil nd ?_
              refine then_norm ?_
              refine awp_cond rfl (fun tt0 => ?_) (fun h => by cases h)
              clear tt0
              refine awp_seq ?_
              refine awp_go hmix ?_
              refine go_run' ttok 1 rfl ?_
              refine go_nil nd ?_
              refine then_norm ?_
              refine awp_ret ?_
              obtain ⟨t1, hn17, hq⟩ := of_mapl' hx10
              subst hq
              have hq := of_inl h
              replace hq := of_some hq
              subst hq
              refine then_ret ?_
              have e18 := of_some hn17
              subst e18
              refine ret_ret ?_
              refine fin0 ttok rfl rfl ?_
              exact (wkP_refl _ rfl)
            · rw [g16]
              replace hx10 := of_bif_f hx10 g16
              refine go_run' ttok 4 rfl ?_
              refine go_gcase rfl rfl rfl (fun g19 => ?_) (fun g19 => ?_)
              · rw [g19]
                replace hx10 := of_bif_t hx10 g19
                refine go_run' ttok 7 rfl ?_
                refine go_nil nd ?_
                refine then_norm ?_
                refine awp_cond rfl (fun tt0 => ?_) (fun h => by cases h)
                clear tt0
                refine awp_seq ?_
                refine awp_go hmix ?_
                refine go_run' ttok 1 rfl ?_
                refine go_nil nd ?_
                refine then_norm ?_
                refine awp_ret ?_
                obtain ⟨t2, hn20, hq⟩ := of_mapl' hx10
                subst hq
                have hq := of_inl h
                replace hq := of_some hq
                subst hq
                refine then_ret ?_
                have e21 := of_some hn20
                subst e21
                refine ret_ret ?_
                refine fin0 ttok rfl rfl ?_
                exact (wkP_refl _ rfl)
              · rw [g19]
                replace hx10 := of_bif_f hx10 g19
                refine go_run' ttok 3 rfl ?_
                obtain ⟨hd22, hx10⟩ := of_grd hx10
                refine go_remT bv.1.a vat.1 hd22 rfl rfl rfl rfl rfl ?_
                refine go_run' ttok 3 rfl ?_
                refine go_nil nd ?_
                refine then_norm ?_
                refine awp_cond (b := ((Int.tmod bv.1.a vat.1) != 0)) rfl (fun c23 => ?_) (fun c23 => ?_)
                · replace hx10 := of_bif_t hx10 c23
                  refine awp_seq ?_
                  refine awp_go hmix ?_
                  refine go_run' ttok 1 rfl ?_
                  refine go_nil nd ?_
                  refine then_norm ?_
                  refine awp_ret ?_
                  obtain ⟨t3, hn24, hq⟩ := of_mapl' hx10
                  subst hq
                  have hq := of_inl h
                  replace hq := of_some hq
                  subst hq
                  refine then_ret ?_
                  have e25 := of_some hn24
                  subst e25
                  refine ret_ret ?_
                  refine fin0 ttok rfl rfl ?_
                  exact (wkP_refl _ rfl)
                · replace hx10 := of_bif_f hx10 c23
                  refine awp_skip ?_
                  have e26 := of_some hx10
                  refine then_norm ⟨rfl, true, [(3, some 3), (4, some 4), (5, some 5), (8, some 8)], ⟨rfl, rfl, rfl, rfl, rfl, ⟨wkP_id _ rfl, trivial⟩, trivial⟩, e26⟩
        · rw [g12]
          replace hx10 := of_bif_f hx10 g12
          refine go_run' ttok 19 rfl ?_
          refine go_nil nd ?_
          refine then_norm ?_
          refine awp_cond rfl (fun h => by cases h) (fun tt0 => ?_)
          clear tt0
          refine awp_skip ?_
          have e27 := of_some hx10
          refine then_norm ⟨rfl, false, [(3, some 3), (4, some 4), (5, some 5), (8, some 8)], ⟨rfl, rfl, rfl, rfl, rfl, ⟨wkP_id _ rfl, trivial⟩, trivial⟩, e27⟩
      · intro ok hw11
        subst hw11
        replace h := of_inr h
        obtain ⟨y1, hx28, h⟩ := of_obind h
        refine awp_seqJ (X := Unit) [3, 4, 5, 7, 8, 9, 10] [3, 4, 5, 8] (fun _ => []) (fun _ => []) (fun w1 => Sum.inr w1 = y1) rfl rfl ?_ ?_
        · skip
          refine awp_seq ?_
          refine awp_go hmix ?_
          refine go_run' ttok 3 rfl ?_
          refine go_gcase rfl rfl rfl (fun g30 => ?_) (fun g30 => ?_)
          · rw [g30]
            replace hx28 := of_bif_t hx28 g30
            refine go_run' ttok 3 rfl ?_
            refine go_gcase rfl rfl rfl (fun g31 => ?_) (fun g31 => ?_)
            · rw [g31]
              replace hx28 := of_bif_t hx28 g31
              refine go_run' ttok 5 rfl ?_
              refine go_nil nd ?_
              refine then_norm ?_
              refine awp_cond rfl (fun tt0 => ?_) (fun h => by cases h)
              clear tt0
              refine awp_seq ?_
              refine awp_go hmix ?_
              refine go_run' ttok 1 rfl ?_
              refine go_nil nd ?_
              refine then_norm ?_
              refine awp_ret ?_
              obtain ⟨t4, hn32, hq⟩ := of_mapl' hx28
              subst hq
              have hq := of_inl h
              replace hq := of_some hq
              subst hq
              refine then_ret ?_
              have e33 := of_some hn32
              subst e33
              refine ret_ret ?_
              refine fin0 ttok rfl rfl ?_
              exact (wkP_refl _ rfl)
            · rw [g31]
              replace hx28 := of_bif_f hx28 g31
              refine go_run' ttok 2 rfl ?_
              refine go_step rfl (as_neAgg shSp rfl eqT32_1 eqT32_2 (by decide) rfl rfl rfl rfl rfl) rfl rfl rfl ?_
              refine go_run' ttok 2 rfl ?_
              refine go_nil nd ?_
              refine then_norm ?_
              refine awp_cond (b := (!(eqV encSp bv.1 (⟨0, 0⟩ : Sp)))) rfl (fun c34 => ?_) (fun c34 => ?_)
              · replace hx28 := of_bif_t hx28 c34
                refine awp_seq ?_
                refine awp_go hmix ?_
                refine go_run' ttok 1 rfl ?_
                refine go_nil nd ?_
                refine then_norm ?_
                refine awp_ret ?_
                obtain ⟨t5, hn35, hq⟩ := of_mapl' hx28
                subst hq
                have hq := of_inl h
                replace hq := of_some hq
                subst hq
                refine then_ret ?_
                have e36 := of_some hn35
                subst e36
                refine ret_ret ?_
                refine fin0 ttok rfl rfl ?_
                exact (wkP_refl _ rfl)
              · replace hx28 := of_bif_f hx28 c34
                refine awp_skip ?_
                have e37 := of_some hx28
                refine then_norm ⟨rfl, (), [(3, some 3), (4, some 4), (5, some 5), (8, some 8)], ⟨rfl, rfl, rfl, rfl, rfl, trivial, trivial⟩, e37⟩
          · rw [g30]
            replace hx28 := of_bif_f hx28 g30
            refine go_run' ttok 8 rfl ?_
            refine go_nil nd ?_
            refine then_norm ?_
            refine awp_cond rfl (fun h => by cases h) (fun tt0 => ?_)
            clear tt0
            refine awp_skip ?_
            have e38 := of_some hx28
            refine then_norm ⟨rfl, (), [(3, some 3), (4, some 4), (5, some 5), (8, some 8)], ⟨rfl, rfl, rfl, rfl, rfl, trivial, trivial⟩, e38⟩
        · intro w1 hw29
          subst hw29
          replace h := of_inr h
          refine awp_seq ?_
          refine awp_seq ?_
          refine awp_go hmix ?_
          refine go_run' ttok 3 rfl ?_
          refine go_gcase rfl rfl rfl (fun g39 => ?_) (fun g39 => ?_)
          · rw [g39]
            replace h := of_bif_t h g39
            refine go_run' ttok 20 rfl ?_
            refine go_nil nd ?_
            refine then_norm ?_
            refine awp_cond rfl (fun tt0 => ?_) (fun h => by cases h)
            clear tt0
            refine awp_seq ?_
            refine awp_go hmix ?_
            obtain ⟨av2, hv40, h⟩ := of_obind h
            refine go_call fn13 (l20_awake_w av2 hv40) rfl rfl rfl rfl rfl rfl rfl ?_
            refine go_run' ttok 1 rfl ?_
            refine go_nil nd ?_
            refine then_norm ?_
            refine awp_ret ?_
            refine then_ret ?_
            have e41 := of_some h
            subst e41
            refine ret_ret ?_
            refine fin0 ttok rfl rfl ?_
            exact (wkP_refl _ rfl)
          · rw [g39]
            replace h := of_bif_f h g39
            refine go_run' ttok 4 rfl ?_
            refine go_gcase rfl rfl rfl (fun g42 => ?_) (fun g42 => ?_)
            · rw [g42]
              replace h := of_bif_t h g42
              refine go_run' ttok 16 rfl ?_
              refine go_nil nd ?_
              refine then_norm ?_
              refine awp_cond rfl (fun tt0 => ?_) (fun h => by cases h)
              clear tt0
              refine awp_seq ?_
              refine awp_go hmix ?_
              obtain ⟨av3, hv43, h⟩ := of_obind h
              refine go_call fn13 (l20_awake_w av3 hv43) rfl rfl rfl rfl rfl rfl rfl ?_
              refine go_run' ttok 1 rfl ?_
              refine go_nil nd ?_
              refine then_norm ?_
              refine awp_ret ?_
              refine then_ret ?_
              have e44 := of_some h
              subst e44
              refine ret_ret ?_
              refine fin0 ttok rfl rfl ?_
              exact (wkP_refl _ rfl)
            · rw [g42]
              replace h := of_bif_f h g42
              refine go_run' ttok 5 rfl ?_
              refine go_gcase rfl rfl rfl (fun g45 => ?_) (fun g45 => ?_)
              · rw [g45]
                replace h := of_bif_t h g45
                refine go_run' ttok 11 rfl ?_
                refine go_nil nd ?_
                refine then_norm ?_
                refine awp_cond rfl (fun tt0 => ?_) (fun h => by cases h)
                clear tt0
                refine awp_seq ?_
                refine awp_go hmix ?_
                obtain ⟨av4, hv46, h⟩ := of_obind h
                refine go_call fn13 (l20_awake_w av4 hv46) rfl rfl rfl rfl rfl rfl rfl ?_
                refine go_run' ttok 1 rfl ?_
                refine go_nil nd ?_
                refine then_norm ?_
                refine awp_ret ?_
                refine then_ret ?_
                have e47 := of_some h
                subst e47
                refine ret_ret ?_
                refine fin0 ttok rfl rfl ?_
                exact (wkP_refl _ rfl)
              · rw [g45]
                replace h := of_bif_f h g45
                refine go_run' ttok 5 rfl ?_
                refine go_gcase rfl rfl rfl (fun g48 => ?_) (fun g48 => ?_)
                · rw [g48]
                  replace h := of_bif_t h g48
                  refine go_run' ttok 6 rfl ?_
                  refine go_nil nd ?_
                  refine then_norm ?_
                  refine awp_cond rfl (fun tt0 => ?_) (fun h => by cases h)
                  clear tt0
                  refine awp_seq ?_
                  refine awp_go hmix ?_
                  obtain ⟨av5, hv49, h⟩ := of_obind h
                  refine go_call fn13 (l20_awake_w av5 hv49) rfl rfl rfl rfl rfl rfl rfl ?_
                  refine go_run' ttok 1 rfl ?_
                  refine go_nil nd ?_
                  refine then_norm ?_
                  refine awp_ret ?_
                  refine then_ret ?_
                  have e50 := of_some h
                  subst e50
                  refine ret_ret ?_
                  refine fin0 ttok rfl rfl ?_
                  exact (wkP_refl _ rfl)
                · rw [g48]
                  replace h := of_bif_f h g48
                  refine go_run' ttok 3 rfl ?_
                  refine go_lenT I g.Product.Lengths ttok rfl rfl rfl rfl rfl rfl ?_
                  refine go_run' ttok 2 rfl ?_
                  refine go_nil nd ?_
                  refine then_norm ?_
                  refine awp_cond (b := (((g.Product.Lengths.length : Nat) : Int) == 0)) rfl (fun c51 => ?_) (fun c51 => ?_)
                  · replace h := of_bif_t h c51
                    refine awp_seq ?_
                    refine awp_go hmix ?_
                    obtain ⟨av6, hv52, h⟩ := of_obind h
                    refine go_call fn13 (l20_awake_w av6 hv52) rfl rfl rfl rfl rfl rfl rfl ?_
                    refine go_run' ttok 1 rfl ?_
                    refine go_nil nd ?_
                    refine then_norm ?_
                    refine awp_ret ?_
                    refine then_ret ?_
                    have e53 := of_some h
                    subst e53
                    refine ret_ret ?_
                    refine fin0 ttok rfl rfl ?_
                    exact (wkP_refl _ rfl)
                  · replace h := of_bif_f h c51
                    refine awp_skip ?_
                    refine then_norm ?_
                    refine awp_seq ?_
                    refine awp_go hmix ?_
                    refine go_run' ttok 3 rfl ?_
                    obtain ⟨hd54, h⟩ := of_grd h
                    refine go_quoT vat.2.1 vat.1 hd54 rfl rfl rfl rfl rfl ?_
                    refine go_run' ttok 3 rfl ?_
                    refine go_nil nd ?_
                    refine then_norm ?_
                    refine awp_seq ?_
                    refine awp_go hmix ?_
                    refine go_run' ttok 9 rfl ?_
                    refine go_lenT I g.Product.Lengths ttok rfl rfl rfl rfl rfl rfl ?_
                    refine go_run' ttok 1 rfl ?_
                    obtain ⟨hd55, h⟩ := of_grd h
                    refine go_remT (WU64 vat.2.2) (WU64 ((g.Product.Lengths.length : Nat) : Int)) hd55 rfl rfl rfl rfl rfl ?_
                    refine go_run' ttok 1 rfl ?_
                    obtain ⟨e, hv56, h⟩ := of_obind h
                    refine go_indexT I g.Product.Lengths (W64 (Int.tmod (WU64 vat.2.2) (WU64 ((g.Product.Lengths.length : Nat) : Int)))) e hv56 ttok rfl rfl rfl rfl rfl rfl rfl rfl rfl ?_
                    refine go_run' ttok 2 rfl ?_
                    refine go_nil (fun _ => by kernel_rfl) ?_
                    refine then_norm ?_
                    refine awp_seq ?_
                    refine awp_seq ?_
                    refine awp_go hmix ?_
                    refine go_run' ttok 3 rfl ?_
                    refine go_gcase rfl rfl rfl (fun g57 => ?_) (fun g57 => ?_)
                    · rw [g57]
                      replace h := of_bif_t h g57
                      refine go_run' ttok 3 rfl ?_
                      refine go_nil nd ?_
                      refine then_norm ?_
                      refine awp_cond rfl (fun tt0 => ?_) (fun h => by cases h)
                      clear tt0
                      refine awp_seq ?_
                      refine awp_go hmix ?_
                      obtain ⟨av7, hv58, h⟩ := of_obind h
                      refine go_call fn13 (l20_awake_w av7 hv58) rfl rfl rfl rfl rfl rfl rfl ?_
                      refine go_run' ttok 1 rfl ?_
                      refine go_nil nd ?_
                      refine then_norm ?_
                      refine awp_ret ?_
                      refine then_ret ?_
                      have e59 := of_some h
                      subst e59
                      refine ret_ret ?_
                      refine fin0 ttok rfl rfl ?_
                      exact (wkP_refl _ rfl)
                    · rw [g57]
                      replace h := of_bif_f h g57
                      refine go_run' ttok 3 rfl ?_
                      refine go_nil nd ?_
                      refine then_norm ?_
                      refine awp_cond (b := (decide (20000 < e))) rfl (fun c60 => ?_) (fun c60 => ?_)
                      · replace h := of_bif_t h c60
                        refine awp_seq ?_
                        refine awp_go hmix ?_
                        obtain ⟨av8, hv61, h⟩ := of_obind h
                        refine go_call fn13 (l20_awake_w av8 hv61) rfl rfl rfl rfl rfl rfl rfl ?_
                        refine go_run' ttok 1 rfl ?_
                        refine go_nil nd ?_
                        refine then_norm ?_
                        refine awp_ret ?_
                        refine then_ret ?_
                        have e62 := of_some h
                        subst e62
                        refine ret_ret ?_
                        refine fin0 ttok rfl rfl ?_
                        exact (wkP_refl _ rfl)
                      · replace h := of_bif_f h c60
                        refine awp_skip ?_
                        refine then_norm ?_
                        refine awp_seq ?_
                        refine awp_go hmix ?_
                        refine go_run' ttok 11 rfl ?_
                        obtain ⟨ov1, hv63, h⟩ := of_obind h
                        refine go_call fn17 (l20_of_w g (⟨vr.X, vr.Y, (⟨(W64 ((W64 (Int.tdiv vat.2.1 vat.1)) * vat.1)), (W64 ((W64 ((W64 (Int.tdiv vat.2.1 vat.1)) * vat.1)) + e))⟩ : Sp)⟩ : Bx) ov1 hv63) rfl rfl rfl rfl rfl rfl rfl ?_
                        refine go_run' ttok 5 rfl ?_
                        refine go_nil nd ?_
                        refine then_norm ?_
                        refine awp_seq ?_
                        refine awp_seq ?_
                        refine awp_go hmix ?_
                        refine go_run' ttok 2 rfl ?_
                        refine go_nil nd ?_
                        refine then_norm ?_
                        refine awp_cond (b := (!ov1.2)) rfl (fun c64 => ?_) (fun c64 => ?_)
                        · replace h := of_bif_t h c64
                          refine awp_seq ?_
                          refine awp_go hmix ?_
                          refine go_run' ttok 3 rfl ?_
                          refine go_gcase rfl rfl rfl (fun g65 => ?_) (fun g65 => ?_)
                          · rw [g65]
                            replace h := of_bif_t h g65
                            obtain ⟨av9, hv66, h⟩ := of_obind h
                            refine go_call fn13 (l20_awake_w av9 hv66) rfl rfl rfl rfl rfl rfl rfl ?_
                            refine go_run' ttok 2 rfl ?_
                            refine go_nil nd ?_
                            refine then_norm ?_
                            refine awp_ret ?_
                            refine then_ret ?_
                            have e67 := of_some h
                            subst e67
                            refine ret_ret ?_
                            refine fin0 ttok rfl rfl ?_
                            exact (wkP_refl _ rfl)
                          · rw [g65]
                            replace h := of_bif_f h g65
                            refine go_run' ttok 3 rfl ?_
                            refine go_nil nd ?_
                            refine then_norm ?_
                            refine awp_ret ?_
                            refine then_ret ?_
                            have e68 := of_some h
                            subst e68
                            refine ret_ret ?_
                            refine fin0 ttok rfl rfl ?_
                            exact (wkP_refl _ rfl)
                        · replace h := of_bif_f h c64
                          refine awp_skip ?_
                          refine then_norm ?_
                          refine awp_seq ?_
                          refine awp_seq ?_
                          refine awp_go hmix ?_
                          refine go_run' ttok 3 rfl ?_
                          refine go_gcase rfl rfl rfl (fun g69 => ?_) (fun g69 => ?_)
                          · rw [g69]
                            replace h := of_bif_t h g69
                            refine go_run' ttok 4 rfl ?_
                            refine go_nil nd ?_
                            refine then_norm ?_
                            refine awp_cond rfl (fun tt0 => ?_) (fun h => by cases h)
                            clear tt0
                            refine awp_seq ?_
                            refine awp_go hmix ?_
                            refine go_run' ttok 1 rfl ?_
                            refine go_nil nd ?_
                            refine then_norm ?_
                            refine awp_ret ?_
                            refine then_ret ?_
                            have e70 := of_some h
                            subst e70
                            refine ret_ret ?_
                            refine fin0 ttok rfl rfl ?_
                            exact (wkP_refl _ rfl)
                          · rw [g69]
                            replace h := of_bif_f h g69
                            refine go_run' ttok 4 rfl ?_
                            refine go_nil nd ?_
                            refine then_norm ?_
                            refine awp_cond (b := (decide (bv.2.1 < ov1.1))) rfl (fun c71 => ?_) (fun c71 => ?_)
                            · replace h := of_bif_t h c71
                              refine awp_seq ?_
                              refine awp_go hmix ?_
                              refine go_run' ttok 1 rfl ?_
                              refine go_nil nd ?_
                              refine then_norm ?_
                              refine awp_ret ?_
                              refine then_ret ?_
                              have e72 := of_some h
                              subst e72
                              refine ret_ret ?_
                              refine fin0 ttok rfl rfl ?_
                              exact (wkP_refl _ rfl)
                            · replace h := of_bif_f h c71
                              refine awp_skip ?_
                              refine then_norm ?_
                              refine awp_seq ?_
                              refine awp_go hmix ?_
                              refine go_run' ttok 4 rfl ?_
                              refine go_gcase rfl rfl rfl (fun g73 => ?_) (fun g73 => ?_)
                              · rw [g73]
                                replace h := of_bif_t h g73
                                refine go_run' ttok 20 rfl ?_
                                obtain ⟨av10, hv74, h⟩ := of_obind h
                                refine go_call fn13 (l20_awake_w av10 hv74) rfl rfl rfl rfl rfl rfl rfl ?_
                                refine go_run' ttok 2 rfl ?_
                                refine go_nil nd ?_
                                refine then_norm ?_
                                refine awp_ret ?_
                                have e75 := of_some h
                                subst e75
                                refine ret_ret ?_
                                refine fin0 ttok rfl rfl ?_
                                exact (wkP_refl _ rfl)
                              · rw [g73]
                                replace h := of_bif_f h g73
                                refine go_run' ttok 6 rfl ?_
                                refine go_gcase rfl rfl rfl (fun g76 => ?_) (fun g76 => ?_)
                                · rw [g76]
                                  replace h := of_bif_t h g76
                                  refine go_run' ttok 14 rfl ?_
                                  obtain ⟨av11, hv77, h⟩ := of_obind h
                                  refine go_call fn13 (l20_awake_w av11 hv77) rfl rfl rfl rfl rfl rfl rfl ?_
                                  refine go_run' ttok 2 rfl ?_
                                  refine go_nil nd ?_
                                  refine then_norm ?_
                                  refine awp_ret ?_
                                  have e78 := of_some h
                                  subst e78
                                  refine ret_ret ?_
                                  refine fin0 ttok rfl rfl ?_
                                  exact (wkP_refl _ rfl)
                                · rw [g76]
                                  replace h := of_bif_f h g76
                                  refine go_run' ttok 5 rfl ?_
                                  refine go_gcase rfl rfl rfl (fun g79 => ?_) (fun g79 => ?_)
                                  · rw [g79]
                                    replace h := of_bif_t h g79
                                    refine go_run' ttok 9 rfl ?_
                                    refine go_gcase rfl rfl rfl (fun g80 => ?_) (fun g80 => ?_)
                                    · rw [g80]
                                      replace h := of_bif_t h g80
                                      obtain ⟨av12, hv81, h⟩ := of_obind h
                                      refine go_call fn13 (l20_awake_w av12 hv81) rfl rfl rfl rfl rfl rfl rfl ?_
                                      refine go_run' ttok 2 rfl ?_
                                      refine go_nil nd ?_
                                      refine then_norm ?_
                                      refine awp_ret ?_
                                      have e82 := of_some h
                                      subst e82
                                      refine ret_ret ?_
                                      refine fin0 ttok rfl rfl ?_
                                      exact (wkP_refl _ rfl)
                                    · rw [g80]
                                      replace h := of_bif_f h g80
                                      refine go_run' ttok 3 rfl ?_
                                      refine go_nil nd ?_
                                      refine then_norm ?_
                                      refine awp_ret ?_
                                      have e83 := of_some h
                                      subst e83
                                      refine ret_ret ?_
                                      refine fin0 ttok rfl rfl ?_
                                      exact (wkP_refl _ rfl)
                                  · rw [g79]
                                    replace h := of_bif_f h g79
                                    refine go_run' ttok 12 rfl ?_
                                    refine go_nil nd ?_
                                    refine then_norm ?_
                                    refine awp_ret ?_
                                    have e84 := of_some h
                                    subst e84
                                    refine ret_ret ?_
                                    refine fin0 ttok rfl rfl ?_
                                    exact (wkP_refl _ rfl)

/-- sawmill/sawmilllaw20.WorthDefects -/
noncomputable def l20_WorthDefects_g (g : Tsawmilllaw20_Given) (b : Bx) (more : Tsawmilllaw20_Given) : Option Bool :=
  (Option.bind (l20_Small_g g) (fun sv => (bif (!sv) then (Option.bind l20_awake_g (fun av => some av)) else (bif (decide (64 ≤ ((g.Defects.length : Nat) : Int))) then (Option.bind l20_awake_g (fun av1 => some av1)) else (bif (((more.Defects.length : Nat) : Int) == 0) then (Option.bind l20_awake_g (fun av2 => some av2)) else (bif (decide (70 < ((more.Defects.length : Nat) : Int))) then (Option.bind l20_awake_g (fun av3 => some av3)) else (Option.bind (l20_of_g g b) (fun ov => (Option.bind (product_Price_g g.Product (W64 (b.z.b - b.z.a))) (fun pv => (Option.bind ((bif (!ov.2) then (bif (ov.1 != 0) then some (Sum.inl false) else (bif ov.2 then (bif (!pv.2) then some (Sum.inl false) else (bif (decide (ov.1 < 0)) then some (Sum.inl false) else (bif (decide (pv.1 < ov.1)) then some (Sum.inl false) else some (Sum.inr true)))) else some (Sum.inr false))) else (bif ov.2 then (bif (!pv.2) then some (Sum.inl false) else (bif (decide (ov.1 < 0)) then some (Sum.inl false) else (bif (decide (pv.1 < ov.1)) then some (Sum.inl false) else some (Sum.inr true)))) else some (Sum.inr false))) : Option (Bool ⊕ Bool)) (Sum.elim (fun q => some q) (fun ok => (Option.bind (appO 56 ([] : List Df) g.Defects) (fun l => (Option.bind (getI more.Defects 0) (fun e => (Option.bind (appO 56 l ([e])) (fun l1 => (Option.bind (l20_of_g (⟨g.Solid, l1, g.Product, g.Fine⟩ : Tsawmilllaw20_Given) b) (fun ov1 => (Option.bind ((bif ov1.2 then (bif (!ok) then some (Sum.inl false) else (bif (decide (ov.1 < ov1.1)) then some (Sum.inl false) else some (Sum.inr ()))) else some (Sum.inr ())) : Option (Bool ⊕ Unit)) (Sum.elim (fun q => some q) (fun _ => (Option.bind (l20_of_g (⟨g.Solid, g.Defects, g.Product, more.Fine⟩ : Tsawmilllaw20_Given) b) (fun ov2 => (bif ov2.2 then (bif ok then (bif (decide (g.Fine ≤ more.Fine)) then (bif (decide (ov.1 < ov2.1)) then some false else (Option.bind l20_awake_g (fun av4 => some av4))) else (Option.bind l20_awake_g (fun av5 => some av5))) else (Option.bind l20_awake_g (fun av6 => some av6))) else (Option.bind l20_awake_g (fun av7 => some av7)))))))))))))))))))))))))))))
theorem l20_WorthDefects_w (g : Tsawmilllaw20_Given) (b : Bx) (more : Tsawmilllaw20_Given) (r : Bool) (h : l20_WorthDefects_g g b more = some r) : Holds Try.prog 8 [(encTsawmilllaw20_Given g), (encBx b), (encTsawmilllaw20_Given more)] [] (B r) [] := by
  unfold l20_WorthDefects_g at h
  refine holds_fn Try.func8 rfl Try.ntmps8 rfl rfl rfl ?_
  refine awp_seq ?_
  refine awp_go hmix ?_
  refine go_run' ttok 4 rfl ?_
  refine go_nil nd ?_
  refine then_norm ?_
  refine awp_seq ?_
  refine awp_seq ?_
  refine awp_go hmix ?_
  refine go_run' ttok 1 rfl ?_
  obtain ⟨sv, hv1, h⟩ := of_obind h
  refine go_call fn14 (l20_Small_w g sv hv1) rfl rfl rfl rfl rfl rfl rfl ?_
  refine go_run' ttok 2 rfl ?_
  refine go_gcase rfl rfl rfl (fun g2 => ?_) (fun g2 => ?_)
  · rw [g2]
    replace h := of_bif_t h g2
    refine go_run' ttok 17 rfl ?_
    refine go_nil nd ?_
    refine then_norm ?_
    refine awp_cond rfl (fun tt0 => ?_) (fun h => by cases h)
    clear tt0
    refine awp_seq ?_
    refine awp_go hmix ?_
    obtain ⟨av, hv3, h⟩ := of_obind h
    refine go_call fn13 (l20_awake_w av hv3) rfl rfl rfl rfl rfl rfl rfl ?_
    refine go_run' ttok 1 rfl ?_
    refine go_nil nd ?_
    refine then_norm ?_
    refine awp_ret ?_
    refine then_ret ?_
    have e4 := of_some h
    subst e4
    refine ret_ret ?_
    refine fin0 ttok rfl rfl ?_
    exact (wkP_refl _ rfl)
  · rw [g2]
    replace h := of_bif_f h g2
    refine go_run' ttok 2 rfl ?_
    refine go_lenT encDf g.Defects ttok rfl rfl rfl rfl rfl rfl ?_
    refine go_run' ttok 3 rfl ?_
    refine go_gcase rfl rfl rfl (fun g5 => ?_) (fun g5 => ?_)
    · rw [g5]
      replace h := of_bif_t h g5
      refine go_run' ttok 11 rfl ?_
      refine go_nil nd ?_
      refine then_norm ?_
      refine awp_cond rfl (fun tt0 => ?_) (fun h => by cases h)
      clear tt0
      refine awp_seq ?_
      refine awp_go hmix ?_
      obtain ⟨av1, hv6, h⟩ := of_obind h
      refine go_call fn13 (l20_awake_w av1 hv6) rfl rfl rfl rfl rfl rfl rfl ?_
      refine go_run' ttok 1 rfl ?_
      refine go_nil nd ?_
      refine then_norm ?_
      refine awp_ret ?_
      refine then_ret ?_
      have e7 := of_some h
      subst e7
      refine ret_ret ?_
      refine fin0 ttok rfl rfl ?_
      exact (wkP_refl _ rfl)
    · rw [g5]
      replace h := of_bif_f h g5
      refine go_run' ttok 2 rfl ?_
      refine go_lenT encDf more.Defects ttok rfl rfl rfl rfl rfl rfl ?_
      refine go_run' ttok 3 rfl ?_
      refine go_gcase rfl rfl rfl (fun g8 => ?_) (fun g8 => ?_)
      · rw [g8]
        replace h := of_bif_t h g8
        refine go_run' ttok 5 rfl ?_
        refine go_nil nd ?_
        refine then_norm ?_
        refine awp_cond rfl (fun tt0 => ?_) (fun h => by cases h)
        clear tt0
        refine awp_seq ?_
        refine awp_go hmix ?_
        obtain ⟨av2, hv9, h⟩ := of_obind h
        refine go_call fn13 (l20_awake_w av2 hv9) rfl rfl rfl rfl rfl rfl rfl ?_
        refine go_run' ttok 1 rfl ?_
        refine go_nil nd ?_
        refine then_norm ?_
        refine awp_ret ?_
        refine then_ret ?_
        have e10 := of_some h
        subst e10
        refine ret_ret ?_
        refine fin0 ttok rfl rfl ?_
        exact (wkP_refl _ rfl)
      · rw [g8]
        replace h := of_bif_f h g8
        refine go_run' ttok 2 rfl ?_
        refine go_lenT encDf more.Defects ttok rfl rfl rfl rfl rfl rfl ?_
        refine go_run' ttok 2 rfl ?_
        refine go_nil nd ?_
        refine then_norm ?_
        refine awp_cond (b := (decide (70 < ((more.Defects.length : Nat) : Int)))) rfl (fun c11 => ?_) (fun c11 => ?_)
        · replace h := of_bif_t h c11
          refine awp_seq ?_
          refine awp_go hmix ?_
          obtain ⟨av3, hv12, h⟩ := of_obind h
          refine go_call fn13 (l20_awake_w av3 hv12) rfl rfl rfl rfl rfl rfl rfl ?_
          refine go_run' ttok 1 rfl ?_
          refine go_nil nd ?_
          refine then_norm ?_
          refine awp_ret ?_
          refine then_ret ?_
          have e13 := of_some h
          subst e13
          refine ret_ret ?_
          refine fin0 ttok rfl rfl ?_
          exact (wkP_refl _ rfl)
        · replace h := of_bif_f h c11
          refine awp_skip ?_
          refine then_norm ?_
          refine awp_seq ?_
          refine awp_go hmix ?_
          refine go_run' ttok 2 rfl ?_
          obtain ⟨ov, hv14, h⟩ := of_obind h
          refine go_call fn17 (l20_of_w g b ov hv14) rfl rfl rfl rfl rfl rfl rfl ?_
          refine go_run' ttok 5 rfl ?_
          refine go_nil nd ?_
          refine then_norm ?_
          refine awp_seq ?_
          refine awp_go hmix ?_
          refine go_run' ttok 9 rfl ?_
          obtain ⟨pv, hv15, h⟩ := of_obind h
          refine go_call fn24 (product_Price_w g.Product (W64 (b.z.b - b.z.a)) pv hv15) rfl rfl rfl rfl rfl rfl rfl ?_
          refine go_run' ttok 5 rfl ?_
          refine go_nil nd ?_
          refine then_norm ?_
          obtain ⟨y, hx16, h⟩ := of_obind h
          refine awp_seqJ (X := Bool) [3, 4, 5, 7] [3, 4, 5] (fun w => [(8, (B w))]) (fun w => []) (fun w => Sum.inr w = y) rfl rfl ?_ ?_
          · skip
            refine awp_seq ?_
            refine awp_go hmix ?_
            refine go_run' ttok 3 rfl ?_
            refine go_gcase rfl rfl rfl (fun g18 => ?_) (fun g18 => ?_)
            · rw [g18]
              replace hx16 := of_bif_t hx16 g18
              refine go_run' ttok 4 rfl ?_
              refine go_gcase rfl rfl rfl (fun g19 => ?_) (fun g19 => ?_)
              · rw [g19]
                replace hx16 := of_bif_t hx16 g19
                refine go_run' ttok 15 rfl ?_
                refine go_nil nd ?_
                refine then_norm ?_
                refine awp_cond rfl (fun tt0 => ?_) (fun h => by cases h)
                clear tt0
                refine awp_seq ?_
                refine awp_go hmix ?_
                refine go_run' ttok 1 rfl ?_
                refine go_nil nd ?_
                refine then_norm ?_
                refine awp_ret ?_
                obtain ⟨t, hn20, hq⟩ := of_mapl' hx16
                subst hq
                have hq := of_inl h
                replace hq := of_some hq
                subst hq
                refine then_ret ?_
                have e21 := of_some hn20
                subst e21
                refine ret_ret ?_
                refine fin0 ttok rfl rfl ?_
                exact (wkP_refl _ rfl)
              · rw [g19]
                replace hx16 := of_bif_f hx16 g19
                refine go_run' ttok 2 rfl ?_
                refine go_gcase rfl rfl rfl (fun g22 => ?_) (fun g22 => ?_)
                · rw [g22]
                  replace hx16 := of_bif_t hx16 g22
                  refine go_run' ttok 3 rfl ?_
                  refine go_gcase rfl rfl rfl (fun g23 => ?_) (fun g23 => ?_)
                  · rw [g23]
                    replace hx16 := of_bif_t hx16 g23
                    refine go_run' ttok 10 rfl ?_
                    refine go_nil nd ?_
                    refine then_norm ?_
                    refine awp_cond rfl (fun tt0 => ?_) (fun h => by cases h)
                    clear tt0
                    refine awp_seq ?_
                    refine awp_go hmix ?_
                    refine go_run' ttok 1 rfl ?_
                    refine go_nil nd ?_
                    refine then_norm ?_
                    refine awp_ret ?_
                    obtain ⟨t1, hn24, hq⟩ := of_mapl' hx16
                    subst hq
                    have hq := of_inl h
                    replace hq := of_some hq
                    subst hq
                    refine then_ret ?_
                    have e25 := of_some hn24
                    subst e25
                    refine ret_ret ?_
                    refine fin0 ttok rfl rfl ?_
                    exact (wkP_refl _ rfl)
                  · rw [g23]
                    replace hx16 := of_bif_f hx16 g23
                    refine go_run' ttok 4 rfl ?_
                    refine go_gcase rfl rfl rfl (fun g26 => ?_) (fun g26 => ?_)
                    · rw [g26]
                      replace hx16 := of_bif_t hx16 g26
                      refine go_run' ttok 6 rfl ?_
                      refine go_nil nd ?_
                      refine then_norm ?_
                      refine awp_cond rfl (fun tt0 => ?_) (fun h => by cases h)
                      clear tt0
                      refine awp_seq ?_
                      refine awp_go hmix ?_
                      refine go_run' ttok 1 rfl ?_
                      refine go_nil nd ?_
                      refine then_norm ?_
                      refine awp_ret ?_
                      obtain ⟨t2, hn27, hq⟩ := of_mapl' hx16
                      subst hq
                      have hq := of_inl h
                      replace hq := of_some hq
                      subst hq
                      refine then_ret ?_
                      have e28 := of_some hn27
                      subst e28
                      refine ret_ret ?_
                      refine fin0 ttok rfl rfl ?_
                      exact (wkP_refl _ rfl)
                    · rw [g26]
                      replace hx16 := of_bif_f hx16 g26
                      refine go_run' ttok 6 rfl ?_
                      refine go_nil nd ?_
                      refine then_norm ?_
                      refine awp_cond (b := (decide (pv.1 < ov.1))) rfl (fun c29 => ?_) (fun c29 => ?_)
                      · replace hx16 := of_bif_t hx16 c29
                        refine awp_seq ?_
                        refine awp_go hmix ?_
                        refine go_run' ttok 1 rfl ?_
                        refine go_nil nd ?_
                        refine then_norm ?_
                        refine awp_ret ?_
                        obtain ⟨t3, hn30, hq⟩ := of_mapl' hx16
                        subst hq
                        have hq := of_inl h
                        replace hq := of_some hq
                        subst hq
                        refine then_ret ?_
                        have e31 := of_some hn30
                        subst e31
                        refine ret_ret ?_
                        refine fin0 ttok rfl rfl ?_
                        exact (wkP_refl _ rfl)
                      · replace hx16 := of_bif_f hx16 c29
                        refine awp_skip ?_
                        have e32 := of_some hx16
                        refine then_norm ⟨rfl, true, [(3, some 3), (4, some 4), (5, some 5)], ⟨rfl, rfl, rfl, rfl, rfl, ⟨wkP_id _ rfl, trivial⟩, trivial⟩, e32⟩
                · rw [g22]
                  replace hx16 := of_bif_f hx16 g22
                  refine go_run' ttok 13 rfl ?_
                  refine go_nil nd ?_
                  refine then_norm ?_
                  refine awp_cond rfl (fun h => by cases h) (fun tt0 => ?_)
                  clear tt0
                  refine awp_skip ?_
                  have e33 := of_some hx16
                  refine then_norm ⟨rfl, false, [(3, some 3), (4, some 4), (5, some 5)], ⟨rfl, rfl, rfl, rfl, rfl, ⟨wkP_id _ rfl, trivial⟩, trivial⟩, e33⟩
            · rw [g18]
              replace hx16 := of_bif_f hx16 g18
              refine go_run' ttok 6 rfl ?_
              refine go_gcase rfl rfl rfl (fun g34 => ?_) (fun g34 => ?_)
              · rw [g34]
                replace hx16 := of_bif_t hx16 g34
                refine go_run' ttok 3 rfl ?_
                refine go_gcase rfl rfl rfl (fun g35 => ?_) (fun g35 => ?_)
                · rw [g35]
                  replace hx16 := of_bif_t hx16 g35
                  refine go_run' ttok 10 rfl ?_
                  refine go_nil nd ?_
                  refine then_norm ?_
                  refine awp_cond rfl (fun tt0 => ?_) (fun h => by cases h)
                  clear tt0
                  refine awp_seq ?_
                  refine awp_go hmix ?_
                  refine go_run' ttok 1 rfl ?_
                  refine go_nil nd ?_
                  refine then_norm ?_
                  refine awp_ret ?_
                  obtain ⟨t4, hn36, hq⟩ := of_mapl' hx16
                  subst hq
                  have hq := of_inl h
                  replace hq := of_some hq
                  subst hq
                  refine then_ret ?_
                  have e37 := of_some hn36
                  subst e37
                  refine ret_ret ?_
                  refine fin0 ttok rfl rfl ?_
                  exact (wkP_refl _ rfl)
                · rw [g35]
                  replace hx16 := of_bif_f hx16 g35
                  refine go_run' ttok 4 rfl ?_
                  refine go_gcase rfl rfl rfl (fun g38 => ?_) (fun g38 => ?_)
                  · rw [g38]
                    replace hx16 := of_bif_t hx16 g38
                    refine go_run' ttok 6 rfl ?_
                    refine go_nil nd ?_
                    refine then_norm ?_
                    refine awp_cond rfl (fun tt0 => ?_) (fun h => by cases h)
                    clear tt0
                    refine awp_seq ?_
                    refine awp_go hmix ?_
                    refine go_run' ttok 1 rfl ?_
                    refine go_nil nd ?_
                    refine then_norm ?_
                    refine awp_ret ?_
                    obtain ⟨t5, hn39, hq⟩ := of_mapl' hx16
                    subst hq
                    have hq := of_inl h
                    replace hq := of_some hq
                    subst hq
                    refine then_ret ?_
                    have e40 := of_some hn39
                    subst e40
                    refine ret_ret ?_
                    refine fin0 ttok rfl rfl ?_
                    exact (wkP_refl _ rfl)
                  · rw [g38]
                    replace hx16 := of_bif_f hx16 g38
                    refine go_run' ttok 6 rfl ?_
                    refine go_nil nd ?_
                    refine then_norm ?_
                    refine awp_cond (b := (decide (pv.1 < ov.1))) rfl (fun c41 => ?_) (fun c41 => ?_)
                    · replace hx16 := of_bif_t hx16 c41
                      refine awp_seq ?_
                      refine awp_go hmix ?_
                      refine go_run' ttok 1 rfl ?_
                      refine go_nil nd ?_
                      refine then_norm ?_
                      refine awp_ret ?_
                      obtain ⟨t6, hn42, hq⟩ := of_mapl' hx16
                      subst hq
                      have hq := of_inl h
                      replace hq := of_some hq
                      subst hq
                      refine then_ret ?_
                      have e43 := of_some hn42
                      subst e43
                      refine ret_ret ?_
                      refine fin0 ttok rfl rfl ?_
                      exact (wkP_refl _ rfl)
                    · replace hx16 := of_bif_f hx16 c41
                      refine awp_skip ?_
                      have e44 := of_some hx16
                      refine then_norm ⟨rfl, true, [(3, some 3), (4, some 4), (5, some 5)], ⟨rfl, rfl, rfl, rfl, rfl, ⟨wkP_id _ rfl, trivial⟩, trivial⟩, e44⟩
              · rw [g34]
                replace hx16 := of_bif_f hx16 g34
                refine go_run' ttok 13 rfl ?_
                refine go_nil nd ?_
                refine then_norm ?_
                refine awp_cond rfl (fun h => by cases h) (fun tt0 => ?_)
                clear tt0
                refine awp_skip ?_
                have e45 := of_some hx16
                refine then_norm ⟨rfl, false, [(3, some 3), (4, some 4), (5, some 5)], ⟨rfl, rfl, rfl, rfl, rfl, ⟨wkP_id _ rfl, trivial⟩, trivial⟩, e45⟩
          · intro ok hw17
            subst hw17
            replace h := of_inr h
            refine awp_seq ?_
            refine awp_go hmix ?_
            refine go_run' ttok 3 rfl ?_
            refine go_nil nd ?_
            refine then_norm ?_
            refine awp_seq ?_
            refine awp_go hmix ?_
            refine go_run' ttok 3 rfl ?_
            obtain ⟨l, hv46, h⟩ := of_obind h
            refine go_appTS encDf ([] : List Df) g.Defects l hv46 (fun _ => rfl) (fun _ => rfl) (by first | rfl | simp [setI]) ttok rfl rfl rfl rfl rfl rfl rfl rfl rfl rfl rfl rfl rfl rfl rfl ?_
            refine go_run' ttok 2 rfl ?_
            obtain ⟨e, hv47, h⟩ := of_obind h
            refine go_indexT encDf more.Defects 0 e hv47 ttok rfl rfl rfl rfl rfl rfl rfl rfl rfl ?_
            refine go_run' ttok 2 rfl ?_
            obtain ⟨l1, hv48, h⟩ := of_obind h
            refine go_appT encDf l ([e]) l1 hv48 (fun _ => rfl) (by first | rfl | simp [setI]) (by first | rfl | simp [setI]) ttok rfl rfl rfl rfl rfl rfl rfl rfl rfl rfl rfl rfl rfl rfl rfl rfl rfl ?_
            refine go_run' ttok 2 rfl ?_
            refine go_nil (fun _ => by kernel_rfl) ?_
            refine then_norm ?_
            refine awp_seq ?_
            refine awp_go hmix ?_
            refine go_run' ttok 2 rfl ?_
            obtain ⟨ov1, hv49, h⟩ := of_obind h
            refine go_callL (L := [(89, some ⟨61, 7, l1.map encDf⟩)]) fn17 (l20_of_w (⟨g.Solid, l1, g.Product, g.Fine⟩ : Tsawmilllaw20_Given) b ov1 hv49) rfl rfl rfl ⟨rfl, List.not_mem_nil, trivial⟩ ⟨⟨(wkP_refl _ rfl), (wkP_lend rfl (by first | rfl | simp [setI]) (fun _ => rfl)), (wkP_refl _ rfl), (wkP_refl _ rfl), (wkP_refl _ rfl), (wkP_refl _ rfl), (wkP_refl _ rfl), (wkP_refl _ rfl), (wkP_refl _ rfl), (wkP_refl _ rfl), trivial⟩, (wkP_refl _ rfl), trivial⟩ rfl rfl (fun _ => rfl) rfl ?_
            refine go_run' ttok 5 rfl ?_
            refine go_nil nd ?_
            refine then_norm ?_
            obtain ⟨y1, hx50, h⟩ := of_obind h
            refine awp_seqJ (X := Unit) [3, 4, 5, 7, 8, 11] [3, 4, 5] (fun _ => []) (fun _ => [(89, some ⟨61, 7, l1.map encDf⟩), (11, some ⟨41, 10, [(.agg [(encL encTSlice g.Solid), (.arr 89 0 l1.length), (S g.Product.Name), (I g.Product.Thick), (I g.Product.Width), (I g.Product.Allow), (I g.Product.Wane), (encL I g.Product.Lengths), (encL I g.Product.Prices), (I g.Fine)])]⟩)]) (fun w1 => Sum.inr w1 = y1) rfl rfl ?_ ?_
            · skip
              refine awp_seq ?_
              refine awp_go hmix ?_
              refine go_run' ttok 2 rfl ?_
              refine go_gcase rfl rfl rfl (fun g52 => ?_) (fun g52 => ?_)
              · rw [g52]
                replace hx50 := of_bif_t hx50 g52
                refine go_run' ttok 3 rfl ?_
                refine go_gcase rfl rfl rfl (fun g53 => ?_) (fun g53 => ?_)
                · rw [g53]
                  replace hx50 := of_bif_t hx50 g53
                  refine go_run' ttok 5 rfl ?_
                  refine go_nil nd ?_
                  refine then_norm ?_
                  refine awp_cond rfl (fun tt0 => ?_) (fun h => by cases h)
                  clear tt0
                  refine awp_seq ?_
                  refine awp_go hmix ?_
                  refine go_run' ttok 1 rfl ?_
                  refine go_nil nd ?_
                  refine then_norm ?_
                  refine awp_ret ?_
                  obtain ⟨t7, hn54, hq⟩ := of_mapl' hx50
                  subst hq
                  have hq := of_inl h
                  replace hq := of_some hq
                  subst hq
                  refine then_ret ?_
                  have e55 := of_some hn54
                  subst e55
                  refine ret_ret ?_
                  refine fin0 ttok rfl rfl ?_
                  exact (wkP_refl _ rfl)
                · rw [g53]
                  replace hx50 := of_bif_f hx50 g53
                  refine go_run' ttok 5 rfl ?_
                  refine go_nil nd ?_
                  refine then_norm ?_
                  refine awp_cond (b := (decide (ov.1 < ov1.1))) rfl (fun c56 => ?_) (fun c56 => ?_)
                  · replace hx50 := of_bif_t hx50 c56
                    refine awp_seq ?_
                    refine awp_go hmix ?_
                    refine go_run' ttok 1 rfl ?_
                    refine go_nil nd ?_
                    refine then_norm ?_
                    refine awp_ret ?_
                    obtain ⟨t8, hn57, hq⟩ := of_mapl' hx50
                    subst hq
                    have hq := of_inl h
                    replace hq := of_some hq
                    subst hq
                    refine then_ret ?_
                    have e58 := of_some hn57
                    subst e58
                    refine ret_ret ?_
                    refine fin0 ttok rfl rfl ?_
                    exact (wkP_refl _ rfl)
                  · replace hx50 := of_bif_f hx50 c56
                    refine awp_skip ?_
                    have e59 := of_some hx50
                    refine then_norm ⟨rfl, (), [(89, some 89), (11, some 11), (3, some 3), (4, some 4), (5, some 5)], ⟨rfl, rfl, rfl, rfl, rfl, trivial, ⟨⟨_, rfl, rfl, rfl, wkX_map (enc := encDf) l1 (fun _ => rfl)⟩, ⟨_, rfl, rfl, rfl, .inr ⟨⟨⟨wkP_id _ rfl, ⟨rfl, rfl, (by first | rfl | simp [setI])⟩, wkP_id _ rfl, wkP_id _ rfl, wkP_id _ rfl, wkP_id _ rfl, wkP_id _ rfl, wkP_id _ rfl, wkP_id _ rfl, wkP_id _ rfl, trivial⟩, trivial⟩, ⟨rfl, trivial⟩⟩⟩, trivial⟩⟩, e59⟩
              · rw [g52]
                replace hx50 := of_bif_f hx50 g52
                refine go_run' ttok 8 rfl ?_
                refine go_nil nd ?_
                refine then_norm ?_
                refine awp_cond rfl (fun h => by cases h) (fun tt0 => ?_)
                clear tt0
                refine awp_skip ?_
                have e60 := of_some hx50
                refine then_norm ⟨rfl, (), [(89, some 89), (11, some 11), (3, some 3), (4, some 4), (5, some 5)], ⟨rfl, rfl, rfl, rfl, rfl, trivial, ⟨⟨_, rfl, rfl, rfl, wkX_map (enc := encDf) l1 (fun _ => rfl)⟩, ⟨_, rfl, rfl, rfl, .inr ⟨⟨⟨wkP_id _ rfl, ⟨rfl, rfl, (by first | rfl | simp [setI])⟩, wkP_id _ rfl, wkP_id _ rfl, wkP_id _ rfl, wkP_id _ rfl, wkP_id _ rfl, wkP_id _ rfl, wkP_id _ rfl, wkP_id _ rfl, trivial⟩, trivial⟩, ⟨rfl, trivial⟩⟩⟩, trivial⟩⟩, e60⟩
            · intro w1 hw51
              subst hw51
              replace h := of_inr h
              refine awp_seq ?_
              refine awp_go hmix ?_
              refine go_run' ttok 2 rfl ?_
              refine go_nil nd ?_
              refine then_norm ?_
              refine awp_seq ?_
              refine awp_go hmix ?_
              refine go_run' ttok 4 rfl ?_
              refine go_nil nd ?_
              refine then_norm ?_
              refine awp_seq ?_
              refine awp_go hmix ?_
              refine go_run' ttok 2 rfl ?_
              obtain ⟨ov2, hv61, h⟩ := of_obind h
              refine go_call fn17 (l20_of_w (⟨g.Solid, g.Defects, g.Product, more.Fine⟩ : Tsawmilllaw20_Given) b ov2 hv61) rfl rfl rfl rfl rfl rfl rfl ?_
              refine go_run' ttok 5 rfl ?_
              refine go_nil nd ?_
              refine then_norm ?_
              refine awp_seq ?_
              refine awp_seq ?_
              refine awp_go hmix ?_
              refine go_run' ttok 2 rfl ?_
              refine go_gcase rfl rfl rfl (fun g62 => ?_) (fun g62 => ?_)
              · rw [g62]
                replace h := of_bif_t h g62
                refine go_run' ttok 3 rfl ?_
                refine go_gcase rfl rfl rfl (fun g63 => ?_) (fun g63 => ?_)
                · rw [g63]
                  replace h := of_bif_t h g63
                  refine go_run' ttok 7 rfl ?_
                  refine go_gcase rfl rfl rfl (fun g64 => ?_) (fun g64 => ?_)
                  · rw [g64]
                    replace h := of_bif_t h g64
                    refine go_run' ttok 4 rfl ?_
                    refine go_nil nd ?_
                    refine then_norm ?_
                    refine awp_cond (b := (decide (ov.1 < ov2.1))) rfl (fun c65 => ?_) (fun c65 => ?_)
                    · replace h := of_bif_t h c65
                      refine awp_seq ?_
                      refine awp_go hmix ?_
                      refine go_run' ttok 1 rfl ?_
                      refine go_nil nd ?_
                      refine then_norm ?_
                      refine awp_ret ?_
                      refine then_ret ?_
                      have e66 := of_some h
                      subst e66
                      refine ret_ret ?_
                      refine fin0 ttok rfl rfl ?_
                      exact (wkP_refl _ rfl)
                    · replace h := of_bif_f h c65
                      refine awp_skip ?_
                      refine then_norm ?_
                      refine awp_seq ?_
                      refine awp_go hmix ?_
                      obtain ⟨av4, hv67, h⟩ := of_obind h
                      refine go_call fn13 (l20_awake_w av4 hv67) rfl rfl rfl rfl rfl rfl rfl ?_
                      refine go_run' ttok 1 rfl ?_
                      refine go_nil nd ?_
                      refine then_norm ?_
                      refine awp_ret ?_
                      have e68 := of_some h
                      subst e68
                      refine ret_ret ?_
                      refine fin0 ttok rfl rfl ?_
                      exact (wkP_refl _ rfl)
                  · rw [g64]
                    replace h := of_bif_f h g64
                    refine go_run' ttok 4 rfl ?_
                    refine go_nil nd ?_
                    refine then_norm ?_
                    refine awp_cond rfl (fun h => by cases h) (fun tt0 => ?_)
                    clear tt0
                    refine awp_skip ?_
                    refine then_norm ?_
                    refine awp_seq ?_
                    refine awp_go hmix ?_
                    obtain ⟨av5, hv69, h⟩ := of_obind h
                    refine go_call fn13 (l20_awake_w av5 hv69) rfl rfl rfl rfl rfl rfl rfl ?_
                    refine go_run' ttok 1 rfl ?_
                    refine go_nil nd ?_
                    refine then_norm ?_
                    refine awp_ret ?_
                    have e70 := of_some h
                    subst e70
                    refine ret_ret ?_
                    refine fin0 ttok rfl rfl ?_
                    exact (wkP_refl _ rfl)
                · rw [g63]
                  replace h := of_bif_f h g63
                  refine go_run' ttok 11 rfl ?_
                  refine go_nil nd ?_
                  refine then_norm ?_
                  refine awp_cond rfl (fun h => by cases h) (fun tt0 => ?_)
                  clear tt0
                  refine awp_skip ?_
                  refine then_norm ?_
                  refine awp_seq ?_
                  refine awp_go hmix ?_
                  obtain ⟨av6, hv71, h⟩ := of_obind h
                  refine go_call fn13 (l20_awake_w av6 hv71) rfl rfl rfl rfl rfl rfl rfl ?_
                  refine go_run' ttok 1 rfl ?_
                  refine go_nil nd ?_
                  refine then_norm ?_
                  refine awp_ret ?_
                  have e72 := of_some h
                  subst e72
                  refine ret_ret ?_
                  refine fin0 ttok rfl rfl ?_
                  exact (wkP_refl _ rfl)
              · rw [g62]
                replace h := of_bif_f h g62
                refine go_run' ttok 14 rfl ?_
                refine go_nil nd ?_
                refine then_norm ?_
                refine awp_cond rfl (fun h => by cases h) (fun tt0 => ?_)
                clear tt0
                refine awp_skip ?_
                refine then_norm ?_
                refine awp_seq ?_
                refine awp_go hmix ?_
                obtain ⟨av7, hv73, h⟩ := of_obind h
                refine go_call fn13 (l20_awake_w av7 hv73) rfl rfl rfl rfl rfl rfl rfl ?_
                refine go_run' ttok 1 rfl ?_
                refine go_nil nd ?_
                refine then_norm ?_
                refine awp_ret ?_
                have e74 := of_some h
                subst e74
                refine ret_ret ?_
                refine fin0 ttok rfl rfl ?_
                exact (wkP_refl _ rfl)

noncomputable def l20_far_s1 (l : (List Df)) (i : Int) : Option (Int ⊕ (Bool ⊕ Unit)) :=
  (bif (decide (i < ((l.length : Nat) : Int))) then (Option.bind (getI l i) (fun e => (bif (decide (e.b.y.a < (-600))) then some (Sum.inr (Sum.inl true)) else (Option.bind (getI l i) (fun e1 => (bif (decide (600 < e1.b.y.b)) then some (Sum.inr (Sum.inl true)) else some (Sum.inl (W64 (i + 1))))))))) else some (Sum.inr (Sum.inr ())))
/-- sawmill/sawmilllaw20.far -/
noncomputable def l20_far_g (l : (List Df)) : Option Bool :=
  (Option.bind ((loopO (fun q => l20_far_s1 l q) 0) : Option (Bool ⊕ Unit)) (Sum.elim (fun q => some q) (fun _ => some false)))
theorem l20_far_w (l : (List Df)) (r : Bool) (h : l20_far_g l = some r) : Holds Try.prog 26 [((encL encDf) l)] [] (B r) [] := by
  unfold l20_far_g at h
  refine holds_fn Try.func26 rfl Try.ntmps26 rfl rfl rfl ?_
  refine awp_seq ?_
  refine awp_go hmix ?_
  refine go_run' ttok 1 rfl ?_
  refine go_nil nd ?_
  refine then_norm ?_
  obtain ⟨y, hx1, h⟩ := of_obind h
  refine awp_seqJ (X := Unit) [] [] (fun _ => []) (fun _ => []) (fun w => Sum.inr w = y) rfl rfl ?_ ?_
  · skip
    refine awp_seq ?_
    refine awp_go hmix ?_
    refine go_run' ttok 1 rfl ?_
    refine go_nil nd ?_
    refine then_norm ?_
    refine awp_block ?_
    refine awp_loopD (X := Int) (Y := (Bool ⊕ Unit)) [0] [] (fun q => [(3, (I q))]) (fun q => []) (fun q => l20_far_s1 l q) 0 [] hx1 ⟨rfl, rfl, rfl, rfl, rfl, ⟨wkP_id _ rfl, trivial⟩, trivial⟩ (fun i vR vz hz3 hk4 => ?_)
    change l20_far_s1 l i = _ at hz3
    unfold l20_far_s1 at hz3
    refine awp_seq ?_
    refine awp_seq ?_
    refine awp_go hmix ?_
    refine go_run' ttok 2 rfl ?_
    refine go_lenT encDf l ttok rfl rfl rfl rfl rfl rfl ?_
    refine go_run' ttok 1 rfl ?_
    refine go_nil nd ?_
    refine then_norm ?_
    refine awp_cond (b := (decide (i < ((l.length : Nat) : Int)))) rfl (fun c5 => ?_) (fun c5 => ?_)
    · replace hz3 := of_bif_t hz3 c5
      refine awp_skip ?_
      refine then_norm ?_
      refine awp_seq ?_
      refine awp_block ?_
      refine awp_seq ?_
      refine awp_go hmix ?_
      refine go_run' ttok 2 rfl ?_
      obtain ⟨e, hv6, hz3⟩ := of_obind hz3
      refine go_indexT encDf l i e hv6 ttok rfl rfl rfl rfl rfl rfl rfl rfl rfl ?_
      refine go_run' ttok 6 rfl ?_
      refine go_gcase rfl rfl rfl (fun g7 => ?_) (fun g7 => ?_)
      · rw [g7]
        replace hz3 := of_bif_t hz3 g7
        refine go_run' ttok 9 rfl ?_
        refine go_nil nd ?_
        refine then_norm ?_
        refine awp_cond rfl (fun tt0 => ?_) (fun h => by cases h)
        clear tt0
        refine awp_seq ?_
        refine awp_go hmix ?_
        refine go_run' ttok 1 rfl ?_
        refine go_nil nd ?_
        refine then_norm ?_
        refine awp_ret ?_
        refine block_ret ?_
        refine then_ret ?_
        obtain ⟨t, hn8, hq⟩ := of_mapr' hz3
        subst hq
        have hq : t = _ := hk4
        subst hq
        refine then_ret ?_
        refine block_ret ?_
        obtain ⟨t1, hn9, hq⟩ := of_mapl' hn8
        subst hq
        have hq := of_inl h
        replace hq := of_some hq
        subst hq
        refine then_ret ?_
        have e10 := of_some hn9
        subst e10
        refine ret_ret ?_
        refine fin0 ttok rfl rfl ?_
        exact (wkP_refl _ rfl)
      · rw [g7]
        replace hz3 := of_bif_f hz3 g7
        refine go_run' ttok 2 rfl ?_
        obtain ⟨e1, hv11, hz3⟩ := of_obind hz3
        refine go_indexT encDf l i e1 hv11 ttok rfl rfl rfl rfl rfl rfl rfl rfl rfl ?_
        refine go_run' ttok 6 rfl ?_
        refine go_nil nd ?_
        refine then_norm ?_
        refine awp_cond (b := (decide (600 < e1.b.y.b))) rfl (fun c12 => ?_) (fun c12 => ?_)
        · replace hz3 := of_bif_t hz3 c12
          refine awp_seq ?_
          refine awp_go hmix ?_
          refine go_run' ttok 1 rfl ?_
          refine go_nil nd ?_
          refine then_norm ?_
          refine awp_ret ?_
          refine block_ret ?_
          refine then_ret ?_
          obtain ⟨t2, hn13, hq⟩ := of_mapr' hz3
          subst hq
          have hq : t2 = _ := hk4
          subst hq
          refine then_ret ?_
          refine block_ret ?_
          obtain ⟨t3, hn14, hq⟩ := of_mapl' hn13
          subst hq
          have hq := of_inl h
          replace hq := of_some hq
          subst hq
          refine then_ret ?_
          have e15 := of_some hn14
          subst e15
          refine ret_ret ?_
          refine fin0 ttok rfl rfl ?_
          exact (wkP_refl _ rfl)
        · replace hz3 := of_bif_f hz3 c12
          refine awp_skip ?_
          refine block_norm ?_
          refine then_norm ?_
          refine awp_go hmix ?_
          refine go_run' ttok 3 rfl ?_
          refine go_nil nd ?_
          have e16 := of_some hz3
          subst e16
          refine then_norm ⟨rfl, (W64 (i + 1)), [], ⟨rfl, rfl, rfl, rfl, rfl, ⟨wkP_id _ rfl, trivial⟩, trivial⟩, hk4⟩
    · replace hz3 := of_bif_f hz3 c5
      refine awp_exit ?_
      refine then_exit ?_
      obtain ⟨t4, hn17, hq⟩ := of_mapr' hz3
      subst hq
      have hq : t4 = _ := hk4
      subst hq
      refine then_exit ?_
      refine block_here ?_
      have e18 := of_some hn17
      refine then_norm ⟨rfl, (), [], ⟨rfl, rfl, rfl, rfl, rfl, trivial, trivial⟩, e18⟩
  · intro w hw2
    subst hw2
    replace h := of_inr h
    refine awp_seq ?_
    refine awp_go hmix ?_
    refine go_run' ttok 1 rfl ?_
    refine go_nil nd ?_
    refine then_norm ?_
    refine awp_ret ?_
    have e19 := of_some h
    subst e19
    refine ret_ret ?_
    refine fin0 ttok rfl rfl ?_
    exact (wkP_refl _ rfl)

end Go.Proofs.Ytjdgaclkcmjjcaa
