/- A1e: what functions of the program compute (written by mod.py). -/
import Derived.Test.YtjdgaclkcmjjcaaA1d
import Derived.KernelRfl
namespace Go.Proofs.Ytjdgaclkcmjjcaa
open Go Go.Ab
set_option linter.unusedSimpArgs false
set_option linter.unusedVariables false
set_option maxRecDepth 20000

noncomputable def l20_WorthOrder_s1 (g : Tsawmilllaw20_Given) (i : Int) (vh10 : (List TSlice)) (vh11 : (List Df)) (vh12 : ByteArray) (vh13 : Int) (vh14 : Int) (vh15 : Int) (vh16 : Int) (vh17 : (List Int)) (vh18 : (List Int)) (vh19 : Int) : Option ((Int × (List TSlice) × (List Df) × ByteArray × Int × Int × Int × Int × (List Int) × (List Int) × Int) ⊕ ((List TSlice) × (List Df) × ByteArray × Int × Int × Int × Int × (List Int) × (List Int) × Int)) :=
  (bif (decide (0 ≤ i)) then (Option.bind (getI g.Defects i) (fun e => (Option.bind (appO 56 vh11 ([e])) (fun l => some (Sum.inl ((W64 (i - 1)), vh10, l, vh12, vh13, vh14, vh15, vh16, vh17, vh18, vh19)))))) else some (Sum.inr (vh10, vh11, vh12, vh13, vh14, vh15, vh16, vh17, vh18, vh19)))
noncomputable def l20_WorthOrder_s2 (g : Tsawmilllaw20_Given) (rows : Int) (i1 : Int) (vh30 : (List TSlice)) (vh31 : (List Df)) (vh32 : ByteArray) (vh33 : Int) (vh34 : Int) (vh35 : Int) (vh36 : Int) (vh37 : (List Int)) (vh38 : (List Int)) (vh39 : Int) : Option ((Int × (List TSlice) × (List Df) × ByteArray × Int × Int × Int × Int × (List Int) × (List Int) × Int) ⊕ (Bool ⊕ ((List TSlice) × (List Df) × ByteArray × Int × Int × Int × Int × (List Int) × (List Int) × Int))) :=
  (bif (decide (i1 < ((g.Solid.length : Nat) : Int))) then (Option.bind (getI g.Solid i1) (fun e1 => (bif (decide (e1.Sec.Low < (-1000))) then (Option.bind l20_awake_g (fun av5 => some (Sum.inr (Sum.inl av5)))) else (bif (decide (1000 < e1.Sec.Low)) then (Option.bind l20_awake_g (fun av6 => some (Sum.inr (Sum.inl av6)))) else (Option.bind (appO 40 vh30 ([(⟨e1.Len, (⟨(W64 (e1.Sec.Low + rows)), e1.Sec.Rows⟩ : TSection)⟩ : TSlice)])) (fun l1 => some (Sum.inl ((W64 (i1 + 1)), l1, vh31, vh32, vh33, vh34, vh35, vh36, vh37, vh38, vh39)))))))) else some (Sum.inr (Sum.inr (vh30, vh31, vh32, vh33, vh34, vh35, vh36, vh37, vh38, vh39))))
noncomputable def l20_WorthOrder_s3 (g : Tsawmilllaw20_Given) (rows : Int) (i2 : Int) (vh50 : (List TSlice)) (vh51 : (List Df)) (vh52 : ByteArray) (vh53 : Int) (vh54 : Int) (vh55 : Int) (vh56 : Int) (vh57 : (List Int)) (vh58 : (List Int)) (vh59 : Int) : Option ((Int × (List TSlice) × (List Df) × ByteArray × Int × Int × Int × Int × (List Int) × (List Int) × Int) ⊕ (Bool ⊕ ((List TSlice) × (List Df) × ByteArray × Int × Int × Int × Int × (List Int) × (List Int) × Int))) :=
  (bif (decide (i2 < ((g.Defects.length : Nat) : Int))) then (Option.bind (getI g.Defects i2) (fun e2 => (bif (decide (e2.b.y.a < (-5000))) then (Option.bind l20_awake_g (fun av7 => some (Sum.inr (Sum.inl av7)))) else (bif (decide (5000 < e2.b.y.b)) then (Option.bind l20_awake_g (fun av8 => some (Sum.inr (Sum.inl av8)))) else (Option.bind (appO 56 vh51 ([(⟨e2.k, (⟨e2.b.x, (⟨(W64 (e2.b.y.a + (W64 (10 * rows)))), (W64 (e2.b.y.b + (W64 (10 * rows))))⟩ : Sp), e2.b.z⟩ : Bx)⟩ : Df)])) (fun l2 => some (Sum.inl ((W64 (i2 + 1)), vh50, l2, vh52, vh53, vh54, vh55, vh56, vh57, vh58, vh59)))))))) else some (Sum.inr (Sum.inr (vh50, vh51, vh52, vh53, vh54, vh55, vh56, vh57, vh58, vh59))))
/-- sawmill/sawmilllaw20.WorthOrder -/
noncomputable def l20_WorthOrder_g (g : Tsawmilllaw20_Given) (b : Bx) (rows : Int) : Option Bool :=
  (Option.bind (l20_Small_g g) (fun sv => (bif (!sv) then (Option.bind l20_awake_g (fun av => some av)) else (bif (decide (rows < (-20))) then (Option.bind l20_awake_g (fun av1 => some av1)) else (bif (decide (20 < rows)) then (Option.bind l20_awake_g (fun av2 => some av2)) else (bif (decide (b.y.a < (-5000))) then (Option.bind l20_awake_g (fun av3 => some av3)) else (bif (decide (5000 < b.y.b)) then (Option.bind l20_awake_g (fun av4 => some av4)) else (Option.bind (l20_of_g g b) (fun ov => (Option.bind ((loopO (fun q => l20_WorthOrder_s1 g q.1 q.2.1 q.2.2.1 q.2.2.2.1 q.2.2.2.2.1 q.2.2.2.2.2.1 q.2.2.2.2.2.2.1 q.2.2.2.2.2.2.2.1 q.2.2.2.2.2.2.2.2.1 q.2.2.2.2.2.2.2.2.2.1 q.2.2.2.2.2.2.2.2.2.2) ((W64 (((g.Defects.length : Nat) : Int) - 1)), g.Solid, [], g.Product.Name, g.Product.Thick, g.Product.Width, g.Product.Allow, g.Product.Wane, g.Product.Lengths, g.Product.Prices, g.Fine)) : Option ((List TSlice) × (List Df) × ByteArray × Int × Int × Int × Int × (List Int) × (List Int) × Int)) (fun w5 => (Option.bind (l20_of_g (⟨w5.1, w5.2.1, (⟨w5.2.2.1, w5.2.2.2.1, w5.2.2.2.2.1, w5.2.2.2.2.2.1, w5.2.2.2.2.2.2.1, w5.2.2.2.2.2.2.2.1, w5.2.2.2.2.2.2.2.2.1⟩ : TProduct), w5.2.2.2.2.2.2.2.2.2⟩ : Tsawmilllaw20_Given) b) (fun ov1 => (bif (ov.1 != ov1.1) then some false else (bif (!(ov.2 == ov1.2)) then some false else (Option.bind ((loopO (fun q => l20_WorthOrder_s2 g rows q.1 q.2.1 q.2.2.1 q.2.2.2.1 q.2.2.2.2.1 q.2.2.2.2.2.1 q.2.2.2.2.2.2.1 q.2.2.2.2.2.2.2.1 q.2.2.2.2.2.2.2.2.1 q.2.2.2.2.2.2.2.2.2.1 q.2.2.2.2.2.2.2.2.2.2) (0, [], [], g.Product.Name, g.Product.Thick, g.Product.Width, g.Product.Allow, g.Product.Wane, g.Product.Lengths, g.Product.Prices, g.Fine)) : Option (Bool ⊕ ((List TSlice) × (List Df) × ByteArray × Int × Int × Int × Int × (List Int) × (List Int) × Int))) (Sum.elim (fun q => some q) (fun w4 => (Option.bind ((loopO (fun q => l20_WorthOrder_s3 g rows q.1 q.2.1 q.2.2.1 q.2.2.2.1 q.2.2.2.2.1 q.2.2.2.2.2.1 q.2.2.2.2.2.2.1 q.2.2.2.2.2.2.2.1 q.2.2.2.2.2.2.2.2.1 q.2.2.2.2.2.2.2.2.2.1 q.2.2.2.2.2.2.2.2.2.2) (0, w4.1, w4.2.1, w4.2.2.1, w4.2.2.2.1, w4.2.2.2.2.1, w4.2.2.2.2.2.1, w4.2.2.2.2.2.2.1, w4.2.2.2.2.2.2.2.1, w4.2.2.2.2.2.2.2.2.1, w4.2.2.2.2.2.2.2.2.2)) : Option (Bool ⊕ ((List TSlice) × (List Df) × ByteArray × Int × Int × Int × Int × (List Int) × (List Int) × Int))) (Sum.elim (fun q => some q) (fun w3 => (Option.bind (l20_of_g (⟨w3.1, w3.2.1, (⟨w3.2.2.1, w3.2.2.2.1, w3.2.2.2.2.1, w3.2.2.2.2.2.1, w3.2.2.2.2.2.2.1, w3.2.2.2.2.2.2.2.1, w3.2.2.2.2.2.2.2.2.1⟩ : TProduct), w3.2.2.2.2.2.2.2.2.2⟩ : Tsawmilllaw20_Given) (⟨b.x, (⟨(W64 (b.y.a + (W64 (10 * rows)))), (W64 (b.y.b + (W64 (10 * rows))))⟩ : Sp), b.z⟩ : Bx)) (fun ov2 => (bif (!ov.2) then (Option.bind l20_awake_g (fun av9 => some av9)) else (bif (decide ((W64 (b.y.a + (W64 (10 * rows)))) < (-600))) then (Option.bind l20_awake_g (fun av10 => some av10)) else (bif (decide (600 < (W64 (b.y.b + (W64 (10 * rows)))))) then (Option.bind l20_awake_g (fun av11 => some av11)) else (Option.bind (solid_Check_g w3.1) (fun cv => (bif (cv != 0) then (Option.bind l20_awake_g (fun av12 => some av12)) else (Option.bind (l20_far_g w3.2.1) (fun fv => (bif fv then (Option.bind l20_awake_g (fun av13 => some av13)) else (bif ov2.2 then (bif (ov2.1 == ov.1) then (Option.bind l20_awake_g (fun av14 => some av14)) else some false) else some false)))))))))))))))))))))))))))))))))
theorem l20_WorthOrder_w (g : Tsawmilllaw20_Given) (b : Bx) (rows : Int) (r : Bool) (h : l20_WorthOrder_g g b rows = some r) : Holds Try.prog 9 [(encTsawmilllaw20_Given g), (encBx b), (I rows)] [] (B r) [] := by
  unfold l20_WorthOrder_g at h
  refine holds_fn Try.func9 rfl Try.ntmps9 rfl rfl rfl ?_
  refine awp_seq ?_
  refine awp_go hmix ?_
  refine go_run' ttok 3 rfl ?_
  refine go_nil nd ?_
  refine then_norm ?_
  refine awp_seq ?_
  refine awp_seq ?_
  refine awp_go hmix ?_
  refine go_run' ttok 1 rfl ?_
  obtain ⟨sv, hv1, h⟩ := of_obind h
  refine go_call fn14 (l20_Small_w g sv hv1) rfl rfl rfl rfl rfl rfl rfl ?_
  refine go_run' ttok 2 rfl ?_
  refine go_gcase rfl rfl rfl (fun g2 => ?_) (fun g2 => ?_)
  · rw [g2]
    replace h := of_bif_t h g2
    refine go_run' ttok 19 rfl ?_
    refine go_nil nd ?_
    refine then_norm ?_
    refine awp_cond rfl (fun tt0 => ?_) (fun h => by cases h)
    clear tt0
    refine awp_seq ?_
    refine awp_go hmix ?_
    obtain ⟨av, hv3, h⟩ := of_obind h
    refine go_call fn13 (l20_awake_w av hv3) rfl rfl rfl rfl rfl rfl rfl ?_
    refine go_run' ttok 1 rfl ?_
    refine go_nil nd ?_
    refine then_norm ?_
    refine awp_ret ?_
    refine then_ret ?_
    have e4 := of_some h
    subst e4
    refine ret_ret ?_
    refine fin0 ttok rfl rfl ?_
    exact (wkP_refl _ rfl)
  · rw [g2]
    replace h := of_bif_f h g2
    refine go_run' ttok 4 rfl ?_
    refine go_gcase rfl rfl rfl (fun g5 => ?_) (fun g5 => ?_)
    · rw [g5]
      replace h := of_bif_t h g5
      refine go_run' ttok 15 rfl ?_
      refine go_nil nd ?_
      refine then_norm ?_
      refine awp_cond rfl (fun tt0 => ?_) (fun h => by cases h)
      clear tt0
      refine awp_seq ?_
      refine awp_go hmix ?_
      obtain ⟨av1, hv6, h⟩ := of_obind h
      refine go_call fn13 (l20_awake_w av1 hv6) rfl rfl rfl rfl rfl rfl rfl ?_
      refine go_run' ttok 1 rfl ?_
      refine go_nil nd ?_
      refine then_norm ?_
      refine awp_ret ?_
      refine then_ret ?_
      have e7 := of_some h
      subst e7
      refine ret_ret ?_
      refine fin0 ttok rfl rfl ?_
      exact (wkP_refl _ rfl)
    · rw [g5]
      replace h := of_bif_f h g5
      refine go_run' ttok 4 rfl ?_
      refine go_gcase rfl rfl rfl (fun g8 => ?_) (fun g8 => ?_)
      · rw [g8]
        replace h := of_bif_t h g8
        refine go_run' ttok 11 rfl ?_
        refine go_nil nd ?_
        refine then_norm ?_
        refine awp_cond rfl (fun tt0 => ?_) (fun h => by cases h)
        clear tt0
        refine awp_seq ?_
        refine awp_go hmix ?_
        obtain ⟨av2, hv9, h⟩ := of_obind h
        refine go_call fn13 (l20_awake_w av2 hv9) rfl rfl rfl rfl rfl rfl rfl ?_
        refine go_run' ttok 1 rfl ?_
        refine go_nil nd ?_
        refine then_norm ?_
        refine awp_ret ?_
        refine then_ret ?_
        have e10 := of_some h
        subst e10
        refine ret_ret ?_
        refine fin0 ttok rfl rfl ?_
        exact (wkP_refl _ rfl)
      · rw [g8]
        replace h := of_bif_f h g8
        refine go_run' ttok 6 rfl ?_
        refine go_gcase rfl rfl rfl (fun g11 => ?_) (fun g11 => ?_)
        · rw [g11]
          replace h := of_bif_t h g11
          refine go_run' ttok 5 rfl ?_
          refine go_nil nd ?_
          refine then_norm ?_
          refine awp_cond rfl (fun tt0 => ?_) (fun h => by cases h)
          clear tt0
          refine awp_seq ?_
          refine awp_go hmix ?_
          obtain ⟨av3, hv12, h⟩ := of_obind h
          refine go_call fn13 (l20_awake_w av3 hv12) rfl rfl rfl rfl rfl rfl rfl ?_
          refine go_run' ttok 1 rfl ?_
          refine go_nil nd ?_
          refine then_norm ?_
          refine awp_ret ?_
          refine then_ret ?_
          have e13 := of_some h
          subst e13
          refine ret_ret ?_
          refine fin0 ttok rfl rfl ?_
          exact (wkP_refl _ rfl)
        · rw [g11]
          replace h := of_bif_f h g11
          refine go_run' ttok 5 rfl ?_
          refine go_nil nd ?_
          refine then_norm ?_
          refine awp_cond (b := (decide (5000 < b.y.b))) rfl (fun c14 => ?_) (fun c14 => ?_)
          · replace h := of_bif_t h c14
            refine awp_seq ?_
            refine awp_go hmix ?_
            obtain ⟨av4, hv15, h⟩ := of_obind h
            refine go_call fn13 (l20_awake_w av4 hv15) rfl rfl rfl rfl rfl rfl rfl ?_
            refine go_run' ttok 1 rfl ?_
            refine go_nil nd ?_
            refine then_norm ?_
            refine awp_ret ?_
            refine then_ret ?_
            have e16 := of_some h
            subst e16
            refine ret_ret ?_
            refine fin0 ttok rfl rfl ?_
            exact (wkP_refl _ rfl)
          · replace h := of_bif_f h c14
            refine awp_skip ?_
            refine then_norm ?_
            refine awp_seq ?_
            refine awp_go hmix ?_
            refine go_run' ttok 2 rfl ?_
            obtain ⟨ov, hv17, h⟩ := of_obind h
            refine go_call fn17 (l20_of_w g b ov hv17) rfl rfl rfl rfl rfl rfl rfl ?_
            refine go_run' ttok 5 rfl ?_
            refine go_nil nd ?_
            refine then_norm ?_
            refine awp_seq ?_
            refine awp_go hmix ?_
            refine go_run' ttok 3 rfl ?_
            refine go_nil nd ?_
            refine then_norm ?_
            refine awp_seq ?_
            refine awp_go hmix ?_
            refine go_run' ttok 2 rfl ?_
            refine go_nil nd ?_
            refine then_norm ?_
            obtain ⟨y, hx18, h⟩ := of_obind h
            refine awp_seqJ (X := ((List TSlice) × (List Df) × ByteArray × Int × Int × Int × Int × (List Int) × (List Int) × Int)) [2, 3, 4, 7, 8, 9] [3, 4] (fun w => []) (fun w => [(990, some ⟨61, 7, w.2.1.map encDf⟩), (9, some ⟨41, 10, [(.agg [(encL encTSlice w.1), (.arr 990 0 w.2.1.length), (S w.2.2.1), (I w.2.2.2.1), (I w.2.2.2.2.1), (I w.2.2.2.2.2.1), (I w.2.2.2.2.2.2.1), (encL I w.2.2.2.2.2.2.2.1), (encL I w.2.2.2.2.2.2.2.2.1), (I w.2.2.2.2.2.2.2.2.2)])]⟩)]) (fun w => w = y) rfl rfl ?_ ?_
            · skip
              refine awp_seq ?_
              refine awp_go hmix ?_
              refine go_run' ttok 2 rfl ?_
              refine go_lenT encDf g.Defects ttok rfl rfl rfl rfl rfl rfl ?_
              refine go_run' ttok 2 rfl ?_
              refine go_nil nd ?_
              refine then_norm ?_
              refine awp_block ?_
              refine awp_loopD (X := (Int × (List TSlice) × (List Df) × ByteArray × Int × Int × Int × Int × (List Int) × (List Int) × Int)) (Y := ((List TSlice) × (List Df) × ByteArray × Int × Int × Int × Int × (List Int) × (List Int) × Int)) [2, 3, 4, 7, 8, 9] [3, 4] (fun q => [(10, (I q.1))]) (fun q => [(990, some ⟨61, 7, q.2.2.1.map encDf⟩), (9, some ⟨41, 10, [(.agg [(encL encTSlice q.2.1), (.arr 990 0 q.2.2.1.length), (S q.2.2.2.1), (I q.2.2.2.2.1), (I q.2.2.2.2.2.1), (I q.2.2.2.2.2.2.1), (I q.2.2.2.2.2.2.2.1), (encL I q.2.2.2.2.2.2.2.2.1), (encL I q.2.2.2.2.2.2.2.2.2.1), (I q.2.2.2.2.2.2.2.2.2.2)])]⟩)]) (fun q => l20_WorthOrder_s1 g q.1 q.2.1 q.2.2.1 q.2.2.2.1 q.2.2.2.2.1 q.2.2.2.2.2.1 q.2.2.2.2.2.2.1 q.2.2.2.2.2.2.2.1 q.2.2.2.2.2.2.2.2.1 q.2.2.2.2.2.2.2.2.2.1 q.2.2.2.2.2.2.2.2.2.2) ((W64 (((g.Defects.length : Nat) : Int) - 1)), g.Solid, [], g.Product.Name, g.Product.Thick, g.Product.Width, g.Product.Allow, g.Product.Wane, g.Product.Lengths, g.Product.Prices, g.Fine) [(990, none), (9, some 9), (3, some 3), (4, some 4)] hx18 ⟨rfl, rfl, rfl, rfl, rfl, ⟨wkP_id _ rfl, trivial⟩, ⟨rfl, ⟨_, rfl, rfl, rfl, .inr ⟨⟨⟨wkP_id _ rfl, ⟨rfl, rfl, (by first | rfl | simp [setI])⟩, wkP_id _ rfl, wkP_id _ rfl, wkP_id _ rfl, wkP_id _ rfl, wkP_id _ rfl, wkP_id _ rfl, wkP_id _ rfl, wkP_id _ rfl, trivial⟩, trivial⟩, ⟨rfl, trivial⟩⟩⟩, trivial⟩⟩ (fun x vR vz hz20 hk21 => ?_)
              obtain ⟨i, vh10, vh11, vh12, vh13, vh14, vh15, vh16, vh17, vh18, vh19⟩ := x
              change l20_WorthOrder_s1 g i vh10 vh11 vh12 vh13 vh14 vh15 vh16 vh17 vh18 vh19 = _ at hz20
              unfold l20_WorthOrder_s1 at hz20
              refine awp_seq ?_
              refine awp_seq ?_
              refine awp_go hmix ?_
              refine go_run' ttok 2 rfl ?_
              refine go_nil nd ?_
              refine then_norm ?_
              refine awp_cond (b := (decide (0 ≤ i))) rfl (fun c22 => ?_) (fun c22 => ?_)
              · replace hz20 := of_bif_t hz20 c22
                refine awp_skip ?_
                refine then_norm ?_
                refine awp_seq ?_
                refine awp_block ?_
                refine awp_go hmix ?_
                refine go_run' ttok 5 rfl ?_
                obtain ⟨e, hv23, hz20⟩ := of_obind hz20
                refine go_indexT encDf g.Defects i e hv23 ttok rfl rfl rfl rfl rfl rfl rfl rfl rfl ?_
                refine go_run' ttok 2 rfl ?_
                obtain ⟨l, hv24, hz20⟩ := of_obind hz20
                refine go_appT encDf vh11 ([e]) l hv24 (fun _ => rfl) (by first | rfl | simp [setI]) (by first | rfl | simp [setI]) ttok rfl rfl rfl rfl rfl rfl rfl rfl rfl rfl rfl rfl rfl rfl rfl rfl rfl ?_
                refine go_run' ttok 2 rfl ?_
                refine go_nil (fun _ => by kernel_rfl) ?_
                refine block_norm ?_
                refine then_norm ?_
                refine awp_go hmix ?_
                refine go_run' ttok 3 rfl ?_
                refine go_nil nd ?_
                have e25 := of_some hz20
                subst e25
                refine then_norm ⟨rfl, ((W64 (i - 1)), vh10, l, vh12, vh13, vh14, vh15, vh16, vh17, vh18, vh19), [(990, some 69), (9, some 9), (3, some 3), (4, some 4)], ⟨rfl, rfl, rfl, rfl, rfl, ⟨wkP_id _ rfl, trivial⟩, ⟨⟨_, rfl, rfl, rfl, wkX_map (enc := encDf) l (fun _ => rfl)⟩, ⟨_, rfl, rfl, rfl, .inr ⟨⟨⟨wkP_id _ rfl, ⟨rfl, rfl, (by first | rfl | simp [setI])⟩, wkP_id _ rfl, wkP_id _ rfl, wkP_id _ rfl, wkP_id _ rfl, wkP_id _ rfl, wkP_id _ rfl, wkP_id _ rfl, wkP_id _ rfl, trivial⟩, trivial⟩, ⟨rfl, trivial⟩⟩⟩, trivial⟩⟩, hk21⟩
              · replace hz20 := of_bif_f hz20 c22
                refine awp_exit ?_
                refine then_exit ?_
                obtain ⟨t, hn26, hq⟩ := of_mapr' hz20
                subst hq
                have hq : t = _ := hk21
                subst hq
                refine then_exit ?_
                refine block_here ?_
                have e27 := of_some hn26
                refine then_norm ⟨rfl, (vh10, vh11, vh12, vh13, vh14, vh15, vh16, vh17, vh18, vh19), [(990, some 990), (9, some 9), (3, some 3), (4, some 4)], ⟨rfl, rfl, rfl, rfl, rfl, trivial, ⟨⟨_, rfl, rfl, rfl, wkX_map (enc := encDf) vh11 (fun _ => rfl)⟩, ⟨_, rfl, rfl, rfl, .inr ⟨⟨⟨wkP_id _ rfl, ⟨rfl, rfl, (by first | rfl | simp [setI])⟩, wkP_id _ rfl, wkP_id _ rfl, wkP_id _ rfl, wkP_id _ rfl, wkP_id _ rfl, wkP_id _ rfl, wkP_id _ rfl, wkP_id _ rfl, trivial⟩, trivial⟩, ⟨rfl, trivial⟩⟩⟩, trivial⟩⟩, e27⟩
            · intro w hw19
              subst hw19
              obtain ⟨vh, vh1, vh2, vh3, vh4, vh5, vh6, vh7, vh8, vh9⟩ := w
              refine awp_seq ?_
              refine awp_go hmix ?_
              refine go_run' ttok 2 rfl ?_
              obtain ⟨ov1, hv28, h⟩ := of_obind h
              refine go_callL (L := [(990, some ⟨61, 7, vh1.map encDf⟩)]) fn17 (l20_of_w (⟨vh, vh1, (⟨vh2, vh3, vh4, vh5, vh6, vh7, vh8⟩ : TProduct), vh9⟩ : Tsawmilllaw20_Given) b ov1 hv28) rfl rfl rfl ⟨rfl, List.not_mem_nil, trivial⟩ ⟨⟨(wkP_refl _ rfl), (wkP_lend rfl (by first | rfl | simp [setI]) (fun _ => rfl)), (wkP_refl _ rfl), (wkP_refl _ rfl), (wkP_refl _ rfl), (wkP_refl _ rfl), (wkP_refl _ rfl), (wkP_refl _ rfl), (wkP_refl _ rfl), (wkP_refl _ rfl), trivial⟩, (wkP_refl _ rfl), trivial⟩ rfl rfl (fun _ => rfl) rfl ?_
              refine go_run' ttok 5 rfl ?_
              refine go_nil nd ?_
              refine then_norm ?_
              refine awp_seq ?_
              refine awp_seq ?_
              refine awp_go hmix ?_
              refine go_run' ttok 4 rfl ?_
              refine go_gcase rfl rfl rfl (fun g29 => ?_) (fun g29 => ?_)
              · rw [g29]
                replace h := of_bif_t h g29
                refine go_run' ttok 4 rfl ?_
                refine go_nil nd ?_
                refine then_norm ?_
                refine awp_cond rfl (fun tt0 => ?_) (fun h => by cases h)
                clear tt0
                refine awp_seq ?_
                refine awp_go hmix ?_
                refine go_run' ttok 1 rfl ?_
                refine go_nil nd ?_
                refine then_norm ?_
                refine awp_ret ?_
                refine then_ret ?_
                have e30 := of_some h
                subst e30
                refine ret_ret ?_
                refine fin0 ttok rfl rfl ?_
                exact (wkP_refl _ rfl)
              · rw [g29]
                replace h := of_bif_f h g29
                refine go_run' ttok 2 rfl ?_
                refine go_step rfl (as_neBool rfl (ttok _ _ rfl) rfl rfl rfl) rfl rfl rfl ?_
                refine go_run' ttok 1 rfl ?_
                refine go_nil nd ?_
                refine then_norm ?_
                refine awp_cond (b := (!(ov.2 == ov1.2))) rfl (fun c31 => ?_) (fun c31 => ?_)
                · replace h := of_bif_t h c31
                  refine awp_seq ?_
                  refine awp_go hmix ?_
                  refine go_run' ttok 1 rfl ?_
                  refine go_nil nd ?_
                  refine then_norm ?_
                  refine awp_ret ?_
                  refine then_ret ?_
                  have e32 := of_some h
                  subst e32
                  refine ret_ret ?_
                  refine fin0 ttok rfl rfl ?_
                  exact (wkP_refl _ rfl)
                · replace h := of_bif_f h c31
                  refine awp_skip ?_
                  refine then_norm ?_
                  refine awp_seq ?_
                  refine awp_go hmix ?_
                  refine go_run' ttok 3 rfl ?_
                  refine go_nil nd ?_
                  refine then_norm ?_
                  refine awp_seq ?_
                  refine awp_go hmix ?_
                  refine go_run' ttok 6 rfl ?_
                  refine go_nil nd ?_
                  refine then_norm ?_
                  obtain ⟨y1, hx33, h⟩ := of_obind h
                  refine awp_seqJ (X := ((List TSlice) × (List Df) × ByteArray × Int × Int × Int × Int × (List Int) × (List Int) × Int)) [3, 4, 7, 8, 9, 13] [3, 4] (fun w1 => []) (fun w1 => [(990, some ⟨67, 3, w1.1.map encTSlice⟩), (989, some ⟨61, 7, w1.2.1.map encDf⟩), (9, some ⟨41, 10, [(.agg [(.arr 990 0 w1.1.length), (.arr 989 0 w1.2.1.length), (S w1.2.2.1), (I w1.2.2.2.1), (I w1.2.2.2.2.1), (I w1.2.2.2.2.2.1), (I w1.2.2.2.2.2.2.1), (encL I w1.2.2.2.2.2.2.2.1), (encL I w1.2.2.2.2.2.2.2.2.1), (I w1.2.2.2.2.2.2.2.2.2)])]⟩)]) (fun w1 => Sum.inr w1 = y1) rfl rfl ?_ ?_
                  · skip
                    refine awp_seq ?_
                    refine awp_go hmix ?_
                    refine go_run' ttok 1 rfl ?_
                    refine go_nil nd ?_
                    refine then_norm ?_
                    refine awp_block ?_
                    refine awp_loopD (X := (Int × (List TSlice) × (List Df) × ByteArray × Int × Int × Int × Int × (List Int) × (List Int) × Int)) (Y := (Bool ⊕ ((List TSlice) × (List Df) × ByteArray × Int × Int × Int × Int × (List Int) × (List Int) × Int))) [2, 3, 4, 7, 8, 9, 13] [3, 4] (fun q => [(14, (I q.1))]) (fun q => [(990, some ⟨67, 3, q.2.1.map encTSlice⟩), (989, some ⟨61, 7, q.2.2.1.map encDf⟩), (9, some ⟨41, 10, [(.agg [(.arr 990 0 q.2.1.length), (.arr 989 0 q.2.2.1.length), (S q.2.2.2.1), (I q.2.2.2.2.1), (I q.2.2.2.2.2.1), (I q.2.2.2.2.2.2.1), (I q.2.2.2.2.2.2.2.1), (encL I q.2.2.2.2.2.2.2.2.1), (encL I q.2.2.2.2.2.2.2.2.2.1), (I q.2.2.2.2.2.2.2.2.2.2)])]⟩)]) (fun q => l20_WorthOrder_s2 g rows q.1 q.2.1 q.2.2.1 q.2.2.2.1 q.2.2.2.2.1 q.2.2.2.2.2.1 q.2.2.2.2.2.2.1 q.2.2.2.2.2.2.2.1 q.2.2.2.2.2.2.2.2.1 q.2.2.2.2.2.2.2.2.2.1 q.2.2.2.2.2.2.2.2.2.2) (0, [], [], g.Product.Name, g.Product.Thick, g.Product.Width, g.Product.Allow, g.Product.Wane, g.Product.Lengths, g.Product.Prices, g.Fine) [(990, none), (989, none), (9, some 9), (3, some 3), (4, some 4)] hx33 ⟨rfl, rfl, rfl, rfl, rfl, ⟨wkP_id _ rfl, trivial⟩, ⟨rfl, rfl, ⟨_, rfl, rfl, rfl, .inr ⟨⟨⟨⟨rfl, rfl, (by first | rfl | simp [setI])⟩, ⟨rfl, rfl, (by first | rfl | simp [setI])⟩, wkP_id _ rfl, wkP_id _ rfl, wkP_id _ rfl, wkP_id _ rfl, wkP_id _ rfl, wkP_id _ rfl, wkP_id _ rfl, wkP_id _ rfl, trivial⟩, trivial⟩, ⟨rfl, trivial⟩⟩⟩, trivial⟩⟩ (fun x1 vR1 vz1 hz35 hk36 => ?_)
                    obtain ⟨i1, vh30, vh31, vh32, vh33, vh34, vh35, vh36, vh37, vh38, vh39⟩ := x1
                    change l20_WorthOrder_s2 g rows i1 vh30 vh31 vh32 vh33 vh34 vh35 vh36 vh37 vh38 vh39 = _ at hz35
                    unfold l20_WorthOrder_s2 at hz35
                    refine awp_seq ?_
                    refine awp_seq ?_
                    refine awp_go hmix ?_
                    refine go_run' ttok 3 rfl ?_
                    refine go_lenT encTSlice g.Solid ttok rfl rfl rfl rfl rfl rfl ?_
                    refine go_run' ttok 1 rfl ?_
                    refine go_nil nd ?_
                    refine then_norm ?_
                    refine awp_cond (b := (decide (i1 < ((g.Solid.length : Nat) : Int)))) rfl (fun c37 => ?_) (fun c37 => ?_)
                    · replace hz35 := of_bif_t hz35 c37
                      refine awp_skip ?_
                      refine then_norm ?_
                      refine awp_seq ?_
                      refine awp_block ?_
                      refine awp_seq ?_
                      refine awp_go hmix ?_
                      refine go_run' ttok 3 rfl ?_
                      obtain ⟨e1, hv38, hz35⟩ := of_obind hz35
                      refine go_indexT encTSlice g.Solid i1 e1 hv38 ttok rfl rfl rfl rfl rfl rfl rfl rfl rfl ?_
                      refine go_run' ttok 3 rfl ?_
                      refine go_nil nd ?_
                      refine then_norm ?_
                      refine awp_seq ?_
                      refine awp_seq ?_
                      refine awp_go hmix ?_
                      refine go_run' ttok 5 rfl ?_
                      refine go_gcase rfl rfl rfl (fun g39 => ?_) (fun g39 => ?_)
                      · rw [g39]
                        replace hz35 := of_bif_t hz35 g39
                        refine go_run' ttok 5 rfl ?_
                        refine go_nil nd ?_
                        refine then_norm ?_
                        refine awp_cond rfl (fun tt0 => ?_) (fun h => by cases h)
                        clear tt0
                        refine awp_seq ?_
                        refine awp_go hmix ?_
                        obtain ⟨av5, hv40, hz35⟩ := of_obind hz35
                        refine go_call fn13 (l20_awake_w av5 hv40) rfl rfl rfl rfl rfl rfl rfl ?_
                        refine go_run' ttok 1 rfl ?_
                        refine go_nil nd ?_
                        refine then_norm ?_
                        refine awp_ret ?_
                        refine then_ret ?_
                        refine block_ret ?_
                        refine then_ret ?_
                        obtain ⟨t1, hn41, hq⟩ := of_mapr' hz35
                        subst hq
                        have hq : t1 = _ := hk36
                        subst hq
                        refine then_ret ?_
                        refine block_ret ?_
                        obtain ⟨t2, hn42, hq⟩ := of_mapl' hn41
                        subst hq
                        have hq := of_inl h
                        replace hq := of_some hq
                        subst hq
                        refine then_ret ?_
                        have e43 := of_some hn42
                        subst e43
                        refine ret_ret ?_
                        refine fin0 ttok rfl rfl ?_
                        exact (wkP_refl _ rfl)
                      · rw [g39]
                        replace hz35 := of_bif_f hz35 g39
                        refine go_run' ttok 5 rfl ?_
                        refine go_nil nd ?_
                        refine then_norm ?_
                        refine awp_cond (b := (decide (1000 < e1.Sec.Low))) rfl (fun c44 => ?_) (fun c44 => ?_)
                        · replace hz35 := of_bif_t hz35 c44
                          refine awp_seq ?_
                          refine awp_go hmix ?_
                          obtain ⟨av6, hv45, hz35⟩ := of_obind hz35
                          refine go_call fn13 (l20_awake_w av6 hv45) rfl rfl rfl rfl rfl rfl rfl ?_
                          refine go_run' ttok 1 rfl ?_
                          refine go_nil nd ?_
                          refine then_norm ?_
                          refine awp_ret ?_
                          refine then_ret ?_
                          refine block_ret ?_
                          refine then_ret ?_
                          obtain ⟨t3, hn46, hq⟩ := of_mapr' hz35
                          subst hq
                          have hq : t3 = _ := hk36
                          subst hq
                          refine then_ret ?_
                          refine block_ret ?_
                          obtain ⟨t4, hn47, hq⟩ := of_mapl' hn46
                          subst hq
                          have hq := of_inl h
                          replace hq := of_some hq
                          subst hq
                          refine then_ret ?_
                          have e48 := of_some hn47
                          subst e48
                          refine ret_ret ?_
                          refine fin0 ttok rfl rfl ?_
                          exact (wkP_refl _ rfl)
                        · replace hz35 := of_bif_f hz35 c44
                          refine awp_skip ?_
                          refine then_norm ?_
                          refine awp_seq ?_
                          refine awp_go hmix ?_
                          refine go_run' ttok 8 rfl ?_
                          refine go_nil nd ?_
                          refine then_norm ?_
                          refine awp_go hmix ?_
                          refine go_run' ttok 4 rfl ?_
                          obtain ⟨l1, hv49, hz35⟩ := of_obind hz35
                          refine go_appT encTSlice vh30 ([(⟨e1.Len, (⟨(W64 (e1.Sec.Low + rows)), e1.Sec.Rows⟩ : TSection)⟩ : TSlice)]) l1 hv49 (fun _ => rfl) (by first | rfl | simp [setI]) (by first | rfl | simp [setI]) ttok rfl rfl rfl rfl rfl rfl rfl rfl rfl rfl rfl rfl rfl rfl rfl rfl rfl ?_
                          refine go_run' ttok 2 rfl ?_
                          refine go_nil nd ?_
                          refine block_norm ?_
                          refine then_norm ?_
                          refine awp_go hmix ?_
                          refine go_run' ttok 3 rfl ?_
                          refine go_nil nd ?_
                          have e50 := of_some hz35
                          subst e50
                          refine then_norm ⟨rfl, ((W64 (i1 + 1)), l1, vh31, vh32, vh33, vh34, vh35, vh36, vh37, vh38, vh39), [(990, some 126), (989, some 989), (9, some 9), (3, some 3), (4, some 4)], ⟨rfl, rfl, rfl, rfl, rfl, ⟨wkP_id _ rfl, trivial⟩, ⟨⟨_, rfl, rfl, rfl, wkX_map (enc := encTSlice) l1 (fun _ => rfl)⟩, ⟨_, rfl, rfl, rfl, wkX_map (enc := encDf) vh31 (fun _ => rfl)⟩, ⟨_, rfl, rfl, rfl, .inr ⟨⟨⟨⟨rfl, rfl, (by first | rfl | simp [setI])⟩, ⟨rfl, rfl, (by first | rfl | simp [setI])⟩, wkP_id _ rfl, wkP_id _ rfl, wkP_id _ rfl, wkP_id _ rfl, wkP_id _ rfl, wkP_id _ rfl, wkP_id _ rfl, wkP_id _ rfl, trivial⟩, trivial⟩, ⟨rfl, trivial⟩⟩⟩, trivial⟩⟩, hk36⟩
                    · replace hz35 := of_bif_f hz35 c37
                      refine awp_exit ?_
                      refine then_exit ?_
                      obtain ⟨t5, hn51, hq⟩ := of_mapr' hz35
                      subst hq
                      have hq : t5 = _ := hk36
                      subst hq
                      refine then_exit ?_
                      refine block_here ?_
                      have e52 := of_some hn51
                      refine then_norm ⟨rfl, (vh30, vh31, vh32, vh33, vh34, vh35, vh36, vh37, vh38, vh39), [(990, some 990), (989, some 989), (9, some 9), (3, some 3), (4, some 4)], ⟨rfl, rfl, rfl, rfl, rfl, trivial, ⟨⟨_, rfl, rfl, rfl, wkX_map (enc := encTSlice) vh30 (fun _ => rfl)⟩, ⟨_, rfl, rfl, rfl, wkX_map (enc := encDf) vh31 (fun _ => rfl)⟩, ⟨_, rfl, rfl, rfl, .inr ⟨⟨⟨⟨rfl, rfl, (by first | rfl | simp [setI])⟩, ⟨rfl, rfl, (by first | rfl | simp [setI])⟩, wkP_id _ rfl, wkP_id _ rfl, wkP_id _ rfl, wkP_id _ rfl, wkP_id _ rfl, wkP_id _ rfl, wkP_id _ rfl, wkP_id _ rfl, trivial⟩, trivial⟩, ⟨rfl, trivial⟩⟩⟩, trivial⟩⟩, e52⟩
                  · intro w1 hw34
                    subst hw34
                    replace h := of_inr h
                    obtain ⟨vh20, vh21, vh22, vh23, vh24, vh25, vh26, vh27, vh28, vh29⟩ := w1
                    obtain ⟨y2, hx53, h⟩ := of_obind h
                    refine awp_seqJ (X := ((List TSlice) × (List Df) × ByteArray × Int × Int × Int × Int × (List Int) × (List Int) × Int)) [4, 7, 8, 9, 13] [4] (fun w2 => []) (fun w2 => [(990, some ⟨67, 3, w2.1.map encTSlice⟩), (989, some ⟨61, 7, w2.2.1.map encDf⟩), (9, some ⟨41, 10, [(.agg [(.arr 990 0 w2.1.length), (.arr 989 0 w2.2.1.length), (S w2.2.2.1), (I w2.2.2.2.1), (I w2.2.2.2.2.1), (I w2.2.2.2.2.2.1), (I w2.2.2.2.2.2.2.1), (encL I w2.2.2.2.2.2.2.2.1), (encL I w2.2.2.2.2.2.2.2.2.1), (I w2.2.2.2.2.2.2.2.2.2)])]⟩)]) (fun w2 => Sum.inr w2 = y2) rfl rfl ?_ ?_
                    · skip
                      refine awp_seq ?_
                      refine awp_go hmix ?_
                      refine go_run' ttok 1 rfl ?_
                      refine go_nil nd ?_
                      refine then_norm ?_
                      refine awp_block ?_
                      refine awp_loopD (X := (Int × (List TSlice) × (List Df) × ByteArray × Int × Int × Int × Int × (List Int) × (List Int) × Int)) (Y := (Bool ⊕ ((List TSlice) × (List Df) × ByteArray × Int × Int × Int × Int × (List Int) × (List Int) × Int))) [3, 4, 7, 8, 9, 13] [3, 4] (fun q => [(16, (I q.1))]) (fun q => [(990, some ⟨67, 3, q.2.1.map encTSlice⟩), (989, some ⟨61, 7, q.2.2.1.map encDf⟩), (9, some ⟨41, 10, [(.agg [(.arr 990 0 q.2.1.length), (.arr 989 0 q.2.2.1.length), (S q.2.2.2.1), (I q.2.2.2.2.1), (I q.2.2.2.2.2.1), (I q.2.2.2.2.2.2.1), (I q.2.2.2.2.2.2.2.1), (encL I q.2.2.2.2.2.2.2.2.1), (encL I q.2.2.2.2.2.2.2.2.2.1), (I q.2.2.2.2.2.2.2.2.2.2)])]⟩)]) (fun q => l20_WorthOrder_s3 g rows q.1 q.2.1 q.2.2.1 q.2.2.2.1 q.2.2.2.2.1 q.2.2.2.2.2.1 q.2.2.2.2.2.2.1 q.2.2.2.2.2.2.2.1 q.2.2.2.2.2.2.2.2.1 q.2.2.2.2.2.2.2.2.2.1 q.2.2.2.2.2.2.2.2.2.2) (0, vh20, vh21, vh22, vh23, vh24, vh25, vh26, vh27, vh28, vh29) [(990, some 990), (989, some 989), (9, some 9), (3, some 3), (4, some 4)] hx53 ⟨rfl, rfl, rfl, rfl, rfl, ⟨wkP_id _ rfl, trivial⟩, ⟨⟨_, rfl, rfl, rfl, wkX_map (enc := encTSlice) vh20 (fun _ => rfl)⟩, ⟨_, rfl, rfl, rfl, wkX_map (enc := encDf) vh21 (fun _ => rfl)⟩, ⟨_, rfl, rfl, rfl, .inr ⟨⟨⟨⟨rfl, rfl, (by first | rfl | simp [setI])⟩, ⟨rfl, rfl, (by first | rfl | simp [setI])⟩, wkP_id _ rfl, wkP_id _ rfl, wkP_id _ rfl, wkP_id _ rfl, wkP_id _ rfl, wkP_id _ rfl, wkP_id _ rfl, wkP_id _ rfl, trivial⟩, trivial⟩, ⟨rfl, trivial⟩⟩⟩, trivial⟩⟩ (fun x2 vR2 vz2 hz55 hk56 => ?_)
                      obtain ⟨i2, vh50, vh51, vh52, vh53, vh54, vh55, vh56, vh57, vh58, vh59⟩ := x2
                      change l20_WorthOrder_s3 g rows i2 vh50 vh51 vh52 vh53 vh54 vh55 vh56 vh57 vh58 vh59 = _ at hz55
                      unfold l20_WorthOrder_s3 at hz55
                      refine awp_seq ?_
                      refine awp_seq ?_
                      refine awp_go hmix ?_
                      refine go_run' ttok 3 rfl ?_
                      refine go_lenT encDf g.Defects ttok rfl rfl rfl rfl rfl rfl ?_
                      refine go_run' ttok 1 rfl ?_
                      refine go_nil nd ?_
                      refine then_norm ?_
                      refine awp_cond (b := (decide (i2 < ((g.Defects.length : Nat) : Int)))) rfl (fun c57 => ?_) (fun c57 => ?_)
                      · replace hz55 := of_bif_t hz55 c57
                        refine awp_skip ?_
                        refine then_norm ?_
                        refine awp_seq ?_
                        refine awp_block ?_
                        refine awp_seq ?_
                        refine awp_go hmix ?_
                        refine go_run' ttok 3 rfl ?_
                        obtain ⟨e2, hv58, hz55⟩ := of_obind hz55
                        refine go_indexT encDf g.Defects i2 e2 hv58 ttok rfl rfl rfl rfl rfl rfl rfl rfl rfl ?_
                        refine go_run' ttok 3 rfl ?_
                        refine go_nil nd ?_
                        refine then_norm ?_
                        refine awp_seq ?_
                        refine awp_seq ?_
                        refine awp_go hmix ?_
                        refine go_run' ttok 6 rfl ?_
                        refine go_gcase rfl rfl rfl (fun g59 => ?_) (fun g59 => ?_)
                        · rw [g59]
                          replace hz55 := of_bif_t hz55 g59
                          refine go_run' ttok 6 rfl ?_
                          refine go_nil nd ?_
                          refine then_norm ?_
                          refine awp_cond rfl (fun tt0 => ?_) (fun h => by cases h)
                          clear tt0
                          refine awp_seq ?_
                          refine awp_go hmix ?_
                          obtain ⟨av7, hv60, hz55⟩ := of_obind hz55
                          refine go_call fn13 (l20_awake_w av7 hv60) rfl rfl rfl rfl rfl rfl rfl ?_
                          refine go_run' ttok 1 rfl ?_
                          refine go_nil nd ?_
                          refine then_norm ?_
                          refine awp_ret ?_
                          refine then_ret ?_
                          refine block_ret ?_
                          refine then_ret ?_
                          obtain ⟨t6, hn61, hq⟩ := of_mapr' hz55
                          subst hq
                          have hq : t6 = _ := hk56
                          subst hq
                          refine then_ret ?_
                          refine block_ret ?_
                          obtain ⟨t7, hn62, hq⟩ := of_mapl' hn61
                          subst hq
                          have hq := of_inl h
                          replace hq := of_some hq
                          subst hq
                          refine then_ret ?_
                          have e63 := of_some hn62
                          subst e63
                          refine ret_ret ?_
                          refine fin0 ttok rfl rfl ?_
                          exact (wkP_refl _ rfl)
                        · rw [g59]
                          replace hz55 := of_bif_f hz55 g59
                          refine go_run' ttok 6 rfl ?_
                          refine go_nil nd ?_
                          refine then_norm ?_
                          refine awp_cond (b := (decide (5000 < e2.b.y.b))) rfl (fun c64 => ?_) (fun c64 => ?_)
                          · replace hz55 := of_bif_t hz55 c64
                            refine awp_seq ?_
                            refine awp_go hmix ?_
                            obtain ⟨av8, hv65, hz55⟩ := of_obind hz55
                            refine go_call fn13 (l20_awake_w av8 hv65) rfl rfl rfl rfl rfl rfl rfl ?_
                            refine go_run' ttok 1 rfl ?_
                            refine go_nil nd ?_
                            refine then_norm ?_
                            refine awp_ret ?_
                            refine then_ret ?_
                            refine block_ret ?_
                            refine then_ret ?_
                            obtain ⟨t8, hn66, hq⟩ := of_mapr' hz55
                            subst hq
                            have hq : t8 = _ := hk56
                            subst hq
                            refine then_ret ?_
                            refine block_ret ?_
                            obtain ⟨t9, hn67, hq⟩ := of_mapl' hn66
                            subst hq
                            have hq := of_inl h
                            replace hq := of_some hq
                            subst hq
                            refine then_ret ?_
                            have e68 := of_some hn67
                            subst e68
                            refine ret_ret ?_
                            refine fin0 ttok rfl rfl ?_
                            exact (wkP_refl _ rfl)
                          · replace hz55 := of_bif_f hz55 c64
                            refine awp_skip ?_
                            refine then_norm ?_
                            refine awp_seq ?_
                            refine awp_go hmix ?_
                            refine go_run' ttok 16 rfl ?_
                            refine go_nil nd ?_
                            refine then_norm ?_
                            refine awp_go hmix ?_
                            refine go_run' ttok 4 rfl ?_
                            obtain ⟨l2, hv69, hz55⟩ := of_obind hz55
                            refine go_appT encDf vh51 ([(⟨e2.k, (⟨e2.b.x, (⟨(W64 (e2.b.y.a + (W64 (10 * rows)))), (W64 (e2.b.y.b + (W64 (10 * rows))))⟩ : Sp), e2.b.z⟩ : Bx)⟩ : Df)]) l2 hv69 (fun _ => rfl) (by first | rfl | simp [setI]) (by first | rfl | simp [setI]) ttok rfl rfl rfl rfl rfl rfl rfl rfl rfl rfl rfl rfl rfl rfl rfl rfl rfl ?_
                            refine go_run' ttok 2 rfl ?_
                            refine go_nil nd ?_
                            refine block_norm ?_
                            refine then_norm ?_
                            refine awp_go hmix ?_
                            refine go_run' ttok 3 rfl ?_
                            refine go_nil nd ?_
                            have e70 := of_some hz55
                            subst e70
                            refine then_norm ⟨rfl, ((W64 (i2 + 1)), vh50, l2, vh52, vh53, vh54, vh55, vh56, vh57, vh58, vh59), [(990, some 990), (989, some 172), (9, some 9), (3, some 3), (4, some 4)], ⟨rfl, rfl, rfl, rfl, rfl, ⟨wkP_id _ rfl, trivial⟩, ⟨⟨_, rfl, rfl, rfl, wkX_map (enc := encTSlice) vh50 (fun _ => rfl)⟩, ⟨_, rfl, rfl, rfl, wkX_map (enc := encDf) l2 (fun _ => rfl)⟩, ⟨_, rfl, rfl, rfl, .inr ⟨⟨⟨⟨rfl, rfl, (by first | rfl | simp [setI])⟩, ⟨rfl, rfl, (by first | rfl | simp [setI])⟩, wkP_id _ rfl, wkP_id _ rfl, wkP_id _ rfl, wkP_id _ rfl, wkP_id _ rfl, wkP_id _ rfl, wkP_id _ rfl, wkP_id _ rfl, trivial⟩, trivial⟩, ⟨rfl, trivial⟩⟩⟩, trivial⟩⟩, hk56⟩
                      · replace hz55 := of_bif_f hz55 c57
                        refine awp_exit ?_
                        refine then_exit ?_
                        obtain ⟨t10, hn71, hq⟩ := of_mapr' hz55
                        subst hq
                        have hq : t10 = _ := hk56
                        subst hq
                        refine then_exit ?_
                        refine block_here ?_
                        have e72 := of_some hn71
                        refine then_norm ⟨rfl, (vh50, vh51, vh52, vh53, vh54, vh55, vh56, vh57, vh58, vh59), [(990, some 990), (989, some 989), (9, some 9), (4, some 4)], ⟨rfl, rfl, rfl, rfl, rfl, trivial, ⟨⟨_, rfl, rfl, rfl, wkX_map (enc := encTSlice) vh50 (fun _ => rfl)⟩, ⟨_, rfl, rfl, rfl, wkX_map (enc := encDf) vh51 (fun _ => rfl)⟩, ⟨_, rfl, rfl, rfl, .inr ⟨⟨⟨⟨rfl, rfl, (by first | rfl | simp [setI])⟩, ⟨rfl, rfl, (by first | rfl | simp [setI])⟩, wkP_id _ rfl, wkP_id _ rfl, wkP_id _ rfl, wkP_id _ rfl, wkP_id _ rfl, wkP_id _ rfl, wkP_id _ rfl, wkP_id _ rfl, trivial⟩, trivial⟩, ⟨rfl, trivial⟩⟩⟩, trivial⟩⟩, e72⟩
                    · intro w2 hw54
                      subst hw54
                      replace h := of_inr h
                      obtain ⟨vh40, vh41, vh42, vh43, vh44, vh45, vh46, vh47, vh48, vh49⟩ := w2
                      refine awp_seq ?_
                      refine awp_go hmix ?_
                      refine go_run' ttok 3 rfl ?_
                      refine go_nil nd ?_
                      refine then_norm ?_
                      refine awp_seq ?_
                      refine awp_go hmix ?_
                      refine go_run' ttok 13 rfl ?_
                      refine go_nil nd ?_
                      refine then_norm ?_
                      refine awp_seq ?_
                      refine awp_go hmix ?_
                      refine go_run' ttok 2 rfl ?_
                      obtain ⟨ov2, hv73, h⟩ := of_obind h
                      refine go_callL (L := [(990, some ⟨67, 3, vh40.map encTSlice⟩), (989, some ⟨61, 7, vh41.map encDf⟩)]) fn17 (l20_of_w (⟨vh40, vh41, (⟨vh42, vh43, vh44, vh45, vh46, vh47, vh48⟩ : TProduct), vh49⟩ : Tsawmilllaw20_Given) (⟨b.x, (⟨(W64 (b.y.a + (W64 (10 * rows)))), (W64 (b.y.b + (W64 (10 * rows))))⟩ : Sp), b.z⟩ : Bx) ov2 hv73) rfl rfl rfl ⟨rfl, List.not_mem_nil, rfl, List.not_mem_nil, trivial⟩ ⟨⟨(wkP_lend rfl (by first | rfl | simp [setI]) (fun _ => rfl)), (wkP_lend rfl (by first | rfl | simp [setI]) (fun _ => rfl)), (wkP_refl _ rfl), (wkP_refl _ rfl), (wkP_refl _ rfl), (wkP_refl _ rfl), (wkP_refl _ rfl), (wkP_refl _ rfl), (wkP_refl _ rfl), (wkP_refl _ rfl), trivial⟩, (wkP_refl _ rfl), trivial⟩ rfl rfl (fun _ => rfl) rfl ?_
                      refine go_run' ttok 5 rfl ?_
                      refine go_nil nd ?_
                      refine then_norm ?_
                      refine awp_seq ?_
                      refine awp_seq ?_
                      refine awp_go hmix ?_
                      refine go_run' ttok 3 rfl ?_
                      refine go_gcase rfl rfl rfl (fun g74 => ?_) (fun g74 => ?_)
                      · rw [g74]
                        replace h := of_bif_t h g74
                        refine go_run' ttok 22 rfl ?_
                        refine go_nil nd ?_
                        refine then_norm ?_
                        refine awp_cond rfl (fun tt0 => ?_) (fun h => by cases h)
                        clear tt0
                        refine awp_seq ?_
                        refine awp_go hmix ?_
                        obtain ⟨av9, hv75, h⟩ := of_obind h
                        refine go_call fn13 (l20_awake_w av9 hv75) rfl rfl rfl rfl rfl rfl rfl ?_
                        refine go_run' ttok 1 rfl ?_
                        refine go_nil nd ?_
                        refine then_norm ?_
                        refine awp_ret ?_
                        refine then_ret ?_
                        have e76 := of_some h
                        subst e76
                        refine ret_ret ?_
                        refine fin0 ttok rfl rfl ?_
                        exact (wkP_refl _ rfl)
                      · rw [g74]
                        replace h := of_bif_f h g74
                        refine go_run' ttok 6 rfl ?_
                        refine go_gcase rfl rfl rfl (fun g77 => ?_) (fun g77 => ?_)
                        · rw [g77]
                          replace h := of_bif_t h g77
                          refine go_run' ttok 16 rfl ?_
                          refine go_nil nd ?_
                          refine then_norm ?_
                          refine awp_cond rfl (fun tt0 => ?_) (fun h => by cases h)
                          clear tt0
                          refine awp_seq ?_
                          refine awp_go hmix ?_
                          obtain ⟨av10, hv78, h⟩ := of_obind h
                          refine go_call fn13 (l20_awake_w av10 hv78) rfl rfl rfl rfl rfl rfl rfl ?_
                          refine go_run' ttok 1 rfl ?_
                          refine go_nil nd ?_
                          refine then_norm ?_
                          refine awp_ret ?_
                          refine then_ret ?_
                          have e79 := of_some h
                          subst e79
                          refine ret_ret ?_
                          refine fin0 ttok rfl rfl ?_
                          exact (wkP_refl _ rfl)
                        · rw [g77]
                          replace h := of_bif_f h g77
                          refine go_run' ttok 6 rfl ?_
                          refine go_gcase rfl rfl rfl (fun g80 => ?_) (fun g80 => ?_)
                          · rw [g80]
                            replace h := of_bif_t h g80
                            refine go_run' ttok 10 rfl ?_
                            refine go_nil nd ?_
                            refine then_norm ?_
                            refine awp_cond rfl (fun tt0 => ?_) (fun h => by cases h)
                            clear tt0
                            refine awp_seq ?_
                            refine awp_go hmix ?_
                            obtain ⟨av11, hv81, h⟩ := of_obind h
                            refine go_call fn13 (l20_awake_w av11 hv81) rfl rfl rfl rfl rfl rfl rfl ?_
                            refine go_run' ttok 1 rfl ?_
                            refine go_nil nd ?_
                            refine then_norm ?_
                            refine awp_ret ?_
                            refine then_ret ?_
                            have e82 := of_some h
                            subst e82
                            refine ret_ret ?_
                            refine fin0 ttok rfl rfl ?_
                            exact (wkP_refl _ rfl)
                          · rw [g80]
                            replace h := of_bif_f h g80
                            refine go_run' ttok 2 rfl ?_
                            obtain ⟨cv, hv83, h⟩ := of_obind h
                            refine go_callL (L := [(990, some ⟨67, 3, vh40.map encTSlice⟩)]) fn25 (solid_Check_w vh40 cv hv83) rfl rfl rfl ⟨rfl, List.not_mem_nil, trivial⟩ ⟨(wkP_lend rfl (by first | rfl | simp [setI]) (fun _ => rfl)), trivial⟩ rfl rfl (fun _ => rfl) rfl ?_
                            refine go_run' ttok 3 rfl ?_
                            refine go_gcase rfl rfl rfl (fun g84 => ?_) (fun g84 => ?_)
                            · rw [g84]
                              replace h := of_bif_t h g84
                              refine go_run' ttok 4 rfl ?_
                              refine go_nil nd ?_
                              refine then_norm ?_
                              refine awp_cond rfl (fun tt0 => ?_) (fun h => by cases h)
                              clear tt0
                              refine awp_seq ?_
                              refine awp_go hmix ?_
                              obtain ⟨av12, hv85, h⟩ := of_obind h
                              refine go_call fn13 (l20_awake_w av12 hv85) rfl rfl rfl rfl rfl rfl rfl ?_
                              refine go_run' ttok 1 rfl ?_
                              refine go_nil nd ?_
                              refine then_norm ?_
                              refine awp_ret ?_
                              refine then_ret ?_
                              have e86 := of_some h
                              subst e86
                              refine ret_ret ?_
                              refine fin0 ttok rfl rfl ?_
                              exact (wkP_refl _ rfl)
                            · rw [g84]
                              replace h := of_bif_f h g84
                              refine go_run' ttok 2 rfl ?_
                              obtain ⟨fv, hv87, h⟩ := of_obind h
                              refine go_callL (L := [(989, some ⟨61, 7, vh41.map encDf⟩)]) fn26 (l20_far_w vh41 fv hv87) rfl rfl rfl ⟨rfl, List.not_mem_nil, trivial⟩ ⟨(wkP_lend rfl (by first | rfl | simp [setI]) (fun _ => rfl)), trivial⟩ rfl rfl (fun _ => rfl) rfl ?_
                              refine go_run' ttok 1 rfl ?_
                              refine go_nil nd ?_
                              refine then_norm ?_
                              refine awp_cond (b := fv) rfl (fun c88 => ?_) (fun c88 => ?_)
                              · replace h := of_bif_t h c88
                                refine awp_seq ?_
                                refine awp_go hmix ?_
                                obtain ⟨av13, hv89, h⟩ := of_obind h
                                refine go_call fn13 (l20_awake_w av13 hv89) rfl rfl rfl rfl rfl rfl rfl ?_
                                refine go_run' ttok 1 rfl ?_
                                refine go_nil nd ?_
                                refine then_norm ?_
                                refine awp_ret ?_
                                refine then_ret ?_
                                have e90 := of_some h
                                subst e90
                                refine ret_ret ?_
                                refine fin0 ttok rfl rfl ?_
                                exact (wkP_refl _ rfl)
                              · replace h := of_bif_f h c88
                                refine awp_skip ?_
                                refine then_norm ?_
                                refine awp_seq ?_
                                refine awp_go hmix ?_
                                refine go_run' ttok 2 rfl ?_
                                refine go_gcase rfl rfl rfl (fun g91 => ?_) (fun g91 => ?_)
                                · rw [g91]
                                  replace h := of_bif_t h g91
                                  refine go_run' ttok 5 rfl ?_
                                  refine go_gcase rfl rfl rfl (fun g92 => ?_) (fun g92 => ?_)
                                  · rw [g92]
                                    replace h := of_bif_t h g92
                                    obtain ⟨av14, hv93, h⟩ := of_obind h
                                    refine go_call fn13 (l20_awake_w av14 hv93) rfl rfl rfl rfl rfl rfl rfl ?_
                                    refine go_run' ttok 2 rfl ?_
                                    refine go_nil nd ?_
                                    refine then_norm ?_
                                    refine awp_ret ?_
                                    have e94 := of_some h
                                    subst e94
                                    refine ret_ret ?_
                                    refine fin0 ttok rfl rfl ?_
                                    exact (wkP_refl _ rfl)
                                  · rw [g92]
                                    replace h := of_bif_f h g92
                                    refine go_run' ttok 3 rfl ?_
                                    refine go_nil nd ?_
                                    refine then_norm ?_
                                    refine awp_ret ?_
                                    have e95 := of_some h
                                    subst e95
                                    refine ret_ret ?_
                                    refine fin0 ttok rfl rfl ?_
                                    exact (wkP_refl _ rfl)
                                · rw [g91]
                                  replace h := of_bif_f h g91
                                  refine go_run' ttok 8 rfl ?_
                                  refine go_nil nd ?_
                                  refine then_norm ?_
                                  refine awp_ret ?_
                                  have e96 := of_some h
                                  subst e96
                                  refine ret_ret ?_
                                  refine fin0 ttok rfl rfl ?_
                                  exact (wkP_refl _ rfl)

noncomputable def solid_extents_s1 (l : (List TSlice)) (vz : Int) (vv : Int) (spans1 : (List Sp)) : Option ((Int × Int × (List Sp)) ⊕ (List Sp)) :=
  (bif (decide (vv < ((l.length : Nat) : Int))) then (Option.bind (getI l vv) (fun e => (Option.bind (getI spans1 vv) (fun e1 => some (Sum.inl ((W64 (vz + e.Len)), (W64 (vv + 1)), (setI spans1 vv (⟨vz, (W64 (vz + e.Len))⟩ : Sp)))))))) else some (Sum.inr spans1))
/-- sawmill/solid.extents -/
noncomputable def solid_extents_g (l : (List TSlice)) : Option (List Sp) :=
  (Option.bind (mkO 16 (⟨0, 0⟩ : Sp) ((l.length : Nat) : Int)) (fun m => (Option.bind ((loopO (fun q => solid_extents_s1 l q.1 q.2.1 q.2.2) (0, 0, m)) : Option (List Sp)) (fun spans => some spans))))
theorem solid_extents_w (l : (List TSlice)) (r : (List Sp)) (h : solid_extents_g l = some r) : Holds Try.prog 47 [((encL encTSlice) l)] [] ((encL encSp) r) [] := by
  unfold solid_extents_g at h
  refine holds_fn Try.func47 rfl Try.ntmps47 rfl rfl rfl ?_
  refine awp_seq ?_
  refine awp_go hmix ?_
  refine go_run' ttok 1 rfl ?_
  refine go_nil nd ?_
  refine then_norm ?_
  refine awp_seq ?_
  refine awp_go hmix ?_
  refine go_run' ttok 1 rfl ?_
  refine go_lenT encTSlice l ttok rfl rfl rfl rfl rfl rfl ?_
  obtain ⟨m, hv1, h⟩ := of_obind h
  refine go_makeT encSp (⟨0, 0⟩ : Sp) ((l.length : Nat) : Int) m hv1 ttok rfl rfl rfl rfl rfl rfl rfl rfl rfl rfl rfl rfl rfl ?_
  refine go_run' ttok 1 rfl ?_
  refine go_nil nd ?_
  refine then_norm ?_
  refine awp_seq ?_
  refine awp_go hmix ?_
  refine go_run' ttok 1 rfl ?_
  refine go_nil nd ?_
  refine then_norm ?_
  obtain ⟨y, hx2, h⟩ := of_obind h
  refine awp_seqJ (X := (List Sp)) [] [] (fun w => [(3, (.arr 9 0 w.length))]) (fun w => [(9, some ⟨32, 2, w.map encSp⟩)]) (fun w => w = y) rfl rfl ?_ ?_
  · skip
    refine awp_seq ?_
    refine awp_go hmix ?_
    refine go_run' ttok 1 rfl ?_
    refine go_lenT encTSlice l ttok rfl rfl rfl rfl rfl rfl ?_
    refine go_run' ttok 1 rfl ?_
    refine go_nil nd ?_
    refine then_norm ?_
    refine awp_block ?_
    refine awp_loopD (X := (Int × Int × (List Sp))) (Y := (List Sp)) [10, 11] [] (fun q => [(4, (I q.1)), (12, (I q.2.1)), (3, (.arr 9 0 q.2.2.length))]) (fun q => [(9, some ⟨32, 2, q.2.2.map encSp⟩)]) (fun q => solid_extents_s1 l q.1 q.2.1 q.2.2) (0, 0, m) [(9, some 9)] hx2 ⟨rfl, rfl, rfl, rfl, rfl, ⟨wkP_id _ rfl, wkP_id _ rfl, ⟨rfl, rfl, (by first | rfl | simp [setI])⟩, trivial⟩, ⟨⟨_, rfl, rfl, rfl, wkX_map (enc := encSp) m (fun _ => rfl)⟩, trivial⟩⟩ (fun x vR vz1 hz4 hk5 => ?_)
    obtain ⟨vz, vv, spans1⟩ := x
    change solid_extents_s1 l vz vv spans1 = _ at hz4
    unfold solid_extents_s1 at hz4
    refine awp_seq ?_
    refine awp_go hmix ?_
    refine go_run' ttok 1 rfl ?_
    refine go_nil nd ?_
    refine then_norm ?_
    refine awp_seq ?_
    refine awp_cond (b := (decide (vv < ((l.length : Nat) : Int)))) rfl (fun c6 => ?_) (fun c6 => ?_)
    · replace hz4 := of_bif_t hz4 c6
      refine awp_skip ?_
      refine then_norm ?_
      refine awp_seq ?_
      refine awp_block ?_
      refine awp_seq ?_
      refine awp_go hmix ?_
      refine go_run' ttok 1 rfl ?_
      obtain ⟨e, hv7, hz4⟩ := of_obind hz4
      refine go_indexT encTSlice l vv e hv7 ttok rfl rfl rfl rfl rfl rfl rfl rfl rfl ?_
      refine go_run' ttok 4 rfl ?_
      refine go_nil nd ?_
      refine then_norm ?_
      refine awp_seq ?_
      refine awp_go hmix ?_
      refine go_run' ttok 8 rfl ?_
      obtain ⟨e1, hv8, hz4⟩ := of_obind hz4
      refine go_indexAT encSp spans1 vv e1 hv8 (by first | rfl | simp [setI]) ttok rfl rfl rfl rfl rfl rfl rfl rfl rfl rfl ?_
      refine go_storeT encSp spans1 vv e1 (⟨vz, (W64 (vz + e.Len))⟩ : Sp) hv8 ttok rfl rfl rfl rfl rfl rfl rfl rfl rfl rfl rfl rfl ?_
      refine go_nil nd ?_
      refine then_norm ?_
      refine awp_go hmix ?_
      refine go_run' ttok 5 rfl ?_
      refine go_nil nd ?_
      refine block_norm ?_
      refine then_norm ?_
      refine awp_go hmix ?_
      refine go_run' ttok 2 rfl ?_
      refine go_nil nd ?_
      have e9 := of_some hz4
      subst e9
      refine then_norm ⟨rfl, ((W64 (vz + e.Len)), (W64 (vv + 1)), (setI spans1 vv (⟨vz, (W64 (vz + e.Len))⟩ : Sp))), [(9, some 9)], ⟨rfl, rfl, rfl, rfl, rfl, ⟨wkP_id _ rfl, wkP_id _ rfl, ⟨rfl, rfl, (by first | rfl | simp [setI])⟩, trivial⟩, ⟨⟨_, rfl, rfl, rfl, wkX_map (enc := encSp) (setI spans1 vv (⟨vz, (W64 (vz + e.Len))⟩ : Sp)) (fun _ => rfl)⟩, trivial⟩⟩, hk5⟩
    · replace hz4 := of_bif_f hz4 c6
      refine awp_exit ?_
      refine then_exit ?_
      obtain ⟨t, hn10, hq⟩ := of_mapr' hz4
      subst hq
      have hq : t = _ := hk5
      subst hq
      refine then_exit ?_
      refine block_here ?_
      have e11 := of_some hn10
      refine then_norm ⟨rfl, spans1, [(9, some 9)], ⟨rfl, rfl, rfl, rfl, rfl, ⟨⟨rfl, rfl, (by first | rfl | simp [setI])⟩, trivial⟩, ⟨⟨_, rfl, rfl, rfl, wkX_map (enc := encSp) spans1 (fun _ => rfl)⟩, trivial⟩⟩, e11⟩
  · intro spans hw3
    subst hw3
    refine awp_seq ?_
    refine awp_go hmix ?_
    refine go_run' ttok 2 rfl ?_
    refine go_nil nd ?_
    refine then_norm ?_
    refine awp_freezeM [] [] [(9, some ⟨32, 2, spans.map encSp⟩)] [] [(2, (encL encSp spans))] [] rfl rfl rfl rfl rfl ⟨rfl, by decide, trivial⟩ ⟨(wkP_lend rfl (by first | rfl | simp [setI]) (fun _ => rfl)), trivial⟩ trivial ?_
    refine awp_ret ?_
    have e12 := of_some h
    subst e12
    refine ret_ret ?_
    refine fin0 ttok rfl rfl ?_
    exact (wkP_refl _ rfl)

noncomputable def solid_Within_s1 (b : Bx) (vv : (List TSlice)) (ev : (List Sp)) (volume1 : Int) (vv1 : Int) : Option ((Int × Int) ⊕ Int) :=
  (bif (decide (vv1 < ((ev.length : Nat) : Int))) then (Option.bind (getI ev vv1) (fun e => (letB (span_Meet_g e b.z) (fun mv => (bif (decide (0 < (span_Len_g mv))) then (Option.bind (getI vv vv1) (fun e1 => (Option.bind (section_Within_g e1.Sec (⟨b.x, b.y⟩ : TRect)) (fun wv => some (Sum.inl ((W64 (volume1 + (W64 ((span_Len_g mv) * wv)))), (W64 (vv1 + 1)))))))) else some (Sum.inl (volume1, (W64 (vv1 + 1))))))))) else some (Sum.inr volume1))
/-- sawmill/solid.Within -/
noncomputable def solid_Within_g (l : (List TSlice)) (b : Bx) : Option Int :=
  (Option.bind (solid_valid_g l) (fun vv => (Option.bind ((Option.bind (solid_extents_g vv) (fun ev => (loopO (fun q => solid_Within_s1 b vv ev q.1 q.2) (0, 0)))) : Option Int) (fun volume => some volume))))
theorem solid_Within_w (l : (List TSlice)) (b : Bx) (r : Int) (h : solid_Within_g l b = some r) : Holds Try.prog 28 [((encL encTSlice) l), (encBx b)] [] (I r) [] := by
  unfold solid_Within_g at h
  refine holds_fn Try.func28 rfl Try.ntmps28 rfl rfl rfl ?_
  refine awp_seq ?_
  refine awp_go hmix ?_
  refine go_run' ttok 2 rfl ?_
  refine go_nil nd ?_
  refine then_norm ?_
  refine awp_seq ?_
  refine awp_go hmix ?_
  refine go_run' ttok 1 rfl ?_
  obtain ⟨vv, hv1, h⟩ := of_obind h
  refine go_call fn46 (solid_valid_w l vv hv1) rfl rfl rfl rfl rfl rfl rfl ?_
  refine go_run' ttok 1 rfl ?_
  refine go_nil nd ?_
  refine then_norm ?_
  refine awp_seq ?_
  refine awp_go hmix ?_
  refine go_run' ttok 1 rfl ?_
  refine go_nil nd ?_
  refine then_norm ?_
  obtain ⟨y, hx2, h⟩ := of_obind h
  refine awp_seqJ (X := Int) [] [] (fun w => [(5, (I w))]) (fun w => []) (fun w => w = y) rfl rfl ?_ ?_
  · skip
    refine awp_seq ?_
    refine awp_go hmix ?_
    refine go_run' ttok 1 rfl ?_
    obtain ⟨ev, hv4, hx2⟩ := of_obind hx2
    refine go_call fn47 (solid_extents_w vv ev hv4) rfl rfl rfl rfl rfl rfl rfl ?_
    refine go_lenT encSp ev ttok rfl rfl rfl rfl rfl rfl ?_
    refine go_run' ttok 1 rfl ?_
    refine go_nil nd ?_
    refine then_norm ?_
    refine awp_block ?_
    refine awp_loopD (X := (Int × Int)) (Y := Int) [0, 3, 12, 13] [3] (fun q => [(5, (I q.1)), (14, (I q.2))]) (fun q => []) (fun q => solid_Within_s1 b vv ev q.1 q.2) (0, 0) [(3, some 3)] hx2 ⟨rfl, rfl, rfl, rfl, rfl, ⟨wkP_id _ rfl, wkP_id _ rfl, trivial⟩, trivial⟩ (fun x vR vz hz5 hk6 => ?_)
    obtain ⟨volume1, vv1⟩ := x
    change solid_Within_s1 b vv ev volume1 vv1 = _ at hz5
    unfold solid_Within_s1 at hz5
    refine awp_seq ?_
    refine awp_go hmix ?_
    refine go_run' ttok 1 rfl ?_
    refine go_nil nd ?_
    refine then_norm ?_
    refine awp_seq ?_
    refine awp_cond (b := (decide (vv1 < ((ev.length : Nat) : Int)))) rfl (fun c7 => ?_) (fun c7 => ?_)
    · replace hz5 := of_bif_t hz5 c7
      refine awp_skip ?_
      refine then_norm ?_
      refine awp_seq ?_
      refine awp_block ?_
      refine awp_seq ?_
      refine awp_go hmix ?_
      refine go_run' ttok 1 rfl ?_
      obtain ⟨e, hv8, hz5⟩ := of_obind hz5
      refine go_indexT encSp ev vv1 e hv8 ttok rfl rfl rfl rfl rfl rfl rfl rfl rfl ?_
      refine go_run' ttok 4 rfl ?_
      refine go_nil nd ?_
      refine then_norm ?_
      refine awp_seq ?_
      refine awp_go hmix ?_
      refine go_run' ttok 3 rfl ?_
      obtain ⟨mv, hv9, hz5⟩ := of_let hz5
      refine go_call fn49 (span_Meet_w e b.z mv hv9) rfl rfl rfl rfl rfl rfl rfl ?_
      refine go_call fn48 (span_Len_w mv _ rfl) rfl rfl rfl rfl rfl rfl rfl ?_
      refine go_run' ttok 1 rfl ?_
      refine go_nil nd ?_
      refine then_norm ?_
      refine awp_seq ?_
      refine awp_go hmix ?_
      refine go_run' ttok 2 rfl ?_
      refine go_nil nd ?_
      refine then_norm ?_
      refine awp_cond (b := (decide (0 < (span_Len_g mv)))) rfl (fun c10 => ?_) (fun c10 => ?_)
      · replace hz5 := of_bif_t hz5 c10
        refine awp_go hmix ?_
        refine go_run' ttok 4 rfl ?_
        obtain ⟨e1, hv11, hz5⟩ := of_obind hz5
        refine go_indexT encTSlice vv vv1 e1 hv11 ttok rfl rfl rfl rfl rfl rfl rfl rfl rfl ?_
        refine go_run' ttok 7 rfl ?_
        obtain ⟨wv, hv12, hz5⟩ := of_obind hz5
        refine go_call fn50 (section_Within_w e1.Sec (⟨b.x, b.y⟩ : TRect) wv hv12) rfl rfl rfl rfl rfl rfl rfl ?_
        refine go_run' ttok 3 rfl ?_
        refine go_nil (fun _ => by kernel_rfl) ?_
        refine block_norm ?_
        refine then_norm ?_
        refine awp_go hmix ?_
        refine go_run' ttok 2 rfl ?_
        refine go_nil nd ?_
        have e13 := of_some hz5
        subst e13
        refine then_norm ⟨rfl, ((W64 (volume1 + (W64 ((span_Len_g mv) * wv)))), (W64 (vv1 + 1))), [(3, some 3)], ⟨rfl, rfl, rfl, rfl, rfl, ⟨wkP_id _ rfl, wkP_id _ rfl, trivial⟩, trivial⟩, hk6⟩
      · replace hz5 := of_bif_f hz5 c10
        refine awp_skip ?_
        refine block_norm ?_
        refine then_norm ?_
        refine awp_go hmix ?_
        refine go_run' ttok 2 rfl ?_
        refine go_nil nd ?_
        have e14 := of_some hz5
        subst e14
        refine then_norm ⟨rfl, (volume1, (W64 (vv1 + 1))), [(3, some 3)], ⟨rfl, rfl, rfl, rfl, rfl, ⟨wkP_id _ rfl, wkP_id _ rfl, trivial⟩, trivial⟩, hk6⟩
    · replace hz5 := of_bif_f hz5 c7
      refine awp_exit ?_
      refine then_exit ?_
      obtain ⟨t, hn15, hq⟩ := of_mapr' hz5
      subst hq
      have hq : t = _ := hk6
      subst hq
      refine then_exit ?_
      refine block_here ?_
      have e16 := of_some hn15
      refine then_norm ⟨rfl, volume1, [], ⟨rfl, rfl, rfl, rfl, rfl, ⟨wkP_id _ rfl, trivial⟩, trivial⟩, e16⟩
  · intro volume hw3
    subst hw3
    refine awp_seq ?_
    refine awp_go hmix ?_
    refine go_run' ttok 2 rfl ?_
    refine go_nil nd ?_
    refine then_norm ?_
    refine awp_ret ?_
    have e17 := of_some h
    subst e17
    refine ret_ret ?_
    refine fin0 ttok rfl rfl ?_
    exact (wkP_refl _ rfl)

/-- sawmill/sawmilllaw20.WorthWood -/
noncomputable def l20_WorthWood_g (l : (List TSlice)) (b : Bx) (vz : Sp) : Option Bool :=
  (Option.bind (l20_Small_g (⟨l, [], (⟨(⟨#[]⟩ : ByteArray), 0, 0, 0, 0, [], []⟩ : TProduct), 0⟩ : Tsawmilllaw20_Given)) (fun sv => (bif (!sv) then (Option.bind l20_awake_g (fun av => some av)) else (Option.bind (solid_Check_g l) (fun cv => (bif (cv != 0) then (Option.bind l20_awake_g (fun av1 => some av1)) else (Option.bind (worth_Wane_g l b) (fun wv => (bif (decide (wv < 0)) then some false else (bif (decide (1000 < wv)) then some false else (bif (decide (b.x.a < (-600))) then (bif (wv == 1000) then (Option.bind l20_awake_g (fun av2 => some av2)) else some false) else (bif (decide (600 < b.x.b)) then (bif (wv == 1000) then (Option.bind l20_awake_g (fun av3 => some av3)) else some false) else (bif (decide (b.y.a < (-600))) then (bif (wv == 1000) then (Option.bind l20_awake_g (fun av4 => some av4)) else some false) else (bif (decide (600 < b.y.b)) then (bif (wv == 1000) then (Option.bind l20_awake_g (fun av5 => some av5)) else some false) else (bif (decide (b.z.a < 0)) then (bif (wv == 1000) then (Option.bind l20_awake_g (fun av6 => some av6)) else some false) else (Option.bind (solid_Length_g l) (fun lv => (bif (decide (lv < b.z.b)) then (bif (wv == 1000) then (Option.bind l20_awake_g (fun av7 => some av7)) else some false) else (bif (decide (b.x.b ≤ b.x.a)) then (bif (wv == 1000) then (Option.bind l20_awake_g (fun av8 => some av8)) else some false) else (bif (decide (b.y.b ≤ b.y.a)) then (bif (wv == 1000) then (Option.bind l20_awake_g (fun av9 => some av9)) else some false) else (bif (decide (b.z.b ≤ b.z.a)) then (bif (wv == 1000) then (Option.bind l20_awake_g (fun av10 => some av10)) else some false) else (Option.bind (solid_Within_g l b) (fun wv1 => (bif (decide ((W64 ((W64 ((W64 ((W64 (b.x.b - b.x.a)) * (W64 (b.y.b - b.y.a)))) * (W64 (b.z.b - b.z.a)))) - wv1)) < 0)) then some false else (bif (!((wv == 0) == ((W64 ((W64 ((W64 ((W64 (b.x.b - b.x.a)) * (W64 (b.y.b - b.y.a)))) * (W64 (b.z.b - b.z.a)))) - wv1)) == 0))) then some false else (bif (decide ((W64 (wv * (W64 ((W64 ((W64 (b.x.b - b.x.a)) * (W64 (b.y.b - b.y.a)))) * (W64 (b.z.b - b.z.a)))))) < (W64 (1000 * (W64 ((W64 ((W64 ((W64 (b.x.b - b.x.a)) * (W64 (b.y.b - b.y.a)))) * (W64 (b.z.b - b.z.a)))) - wv1)))))) then some false else (bif (decide ((min b.z.b vz.b) ≤ (max b.z.a vz.a))) then (Option.bind l20_awake_g (fun av11 => some av11)) else (Option.bind (worth_Wane_g l (⟨b.x, b.y, (⟨(max b.z.a vz.a), (min b.z.b vz.b)⟩ : Sp)⟩ : Bx)) (fun wv2 => (bif (decide (wv2 ≤ wv)) then (Option.bind l20_awake_g (fun av12 => some av12)) else some false))))))))))))))))))))))))))))))
theorem l20_WorthWood_w (l : (List TSlice)) (b : Bx) (vz : Sp) (r : Bool) (h : l20_WorthWood_g l b vz = some r) : Holds Try.prog 10 [((encL encTSlice) l), (encBx b), (encSp vz)] [] (B r) [] := by
  unfold l20_WorthWood_g at h
  refine holds_fn Try.func10 rfl Try.ntmps10 rfl rfl rfl ?_
  refine awp_seq ?_
  refine awp_go hmix ?_
  refine go_run' ttok 3 rfl ?_
  refine go_nil nd ?_
  refine then_norm ?_
  refine awp_seq ?_
  refine awp_seq ?_
  refine awp_go hmix ?_
  refine go_run' ttok 2 rfl ?_
  obtain ⟨sv, hv1, h⟩ := of_obind h
  refine go_callL (L := []) fn14 (l20_Small_w (⟨l, [], (⟨(⟨#[]⟩ : ByteArray), 0, 0, 0, 0, [], []⟩ : TProduct), 0⟩ : Tsawmilllaw20_Given) sv hv1) rfl rfl rfl trivial ⟨⟨(wkP_refl _ rfl), wkP_nilm, (wkP_refl _ rfl), (wkP_refl _ rfl), (wkP_refl _ rfl), (wkP_refl _ rfl), (wkP_refl _ rfl), wkP_nilm, wkP_nilm, (wkP_refl _ rfl), trivial⟩, trivial⟩ rfl rfl (fun h => absurd rfl h) rfl ?_
  refine go_run' ttok 2 rfl ?_
  refine go_gcase rfl rfl rfl (fun g2 => ?_) (fun g2 => ?_)
  · rw [g2]
    replace h := of_bif_t h g2
    refine go_run' ttok 4 rfl ?_
    refine go_nil nd ?_
    refine then_norm ?_
    refine awp_cond rfl (fun tt0 => ?_) (fun h => by cases h)
    clear tt0
    refine awp_seq ?_
    refine awp_go hmix ?_
    obtain ⟨av, hv3, h⟩ := of_obind h
    refine go_call fn13 (l20_awake_w av hv3) rfl rfl rfl rfl rfl rfl rfl ?_
    refine go_run' ttok 1 rfl ?_
    refine go_nil nd ?_
    refine then_norm ?_
    refine awp_ret ?_
    refine then_ret ?_
    have e4 := of_some h
    subst e4
    refine ret_ret ?_
    refine fin0 ttok rfl rfl ?_
    exact (wkP_refl _ rfl)
  · rw [g2]
    replace h := of_bif_f h g2
    refine go_run' ttok 1 rfl ?_
    obtain ⟨cv, hv5, h⟩ := of_obind h
    refine go_call fn25 (solid_Check_w l cv hv5) rfl rfl rfl rfl rfl rfl rfl ?_
    refine go_run' ttok 2 rfl ?_
    refine go_nil nd ?_
    refine then_norm ?_
    refine awp_cond (b := (cv != 0)) rfl (fun c6 => ?_) (fun c6 => ?_)
    · replace h := of_bif_t h c6
      refine awp_seq ?_
      refine awp_go hmix ?_
      obtain ⟨av1, hv7, h⟩ := of_obind h
      refine go_call fn13 (l20_awake_w av1 hv7) rfl rfl rfl rfl rfl rfl rfl ?_
      refine go_run' ttok 1 rfl ?_
      refine go_nil nd ?_
      refine then_norm ?_
      refine awp_ret ?_
      refine then_ret ?_
      have e8 := of_some h
      subst e8
      refine ret_ret ?_
      refine fin0 ttok rfl rfl ?_
      exact (wkP_refl _ rfl)
    · replace h := of_bif_f h c6
      refine awp_skip ?_
      refine then_norm ?_
      refine awp_seq ?_
      refine awp_go hmix ?_
      refine go_run' ttok 2 rfl ?_
      obtain ⟨wv, hv9, h⟩ := of_obind h
      refine go_call fn15 (worth_Wane_w l b wv hv9) rfl rfl rfl rfl rfl rfl rfl ?_
      refine go_run' ttok 1 rfl ?_
      refine go_nil nd ?_
      refine then_norm ?_
      refine awp_seq ?_
      refine awp_seq ?_
      refine awp_go hmix ?_
      refine go_run' ttok 3 rfl ?_
      refine go_gcase rfl rfl rfl (fun g10 => ?_) (fun g10 => ?_)
      · rw [g10]
        replace h := of_bif_t h g10
        refine go_run' ttok 3 rfl ?_
        refine go_nil nd ?_
        refine then_norm ?_
        refine awp_cond rfl (fun tt0 => ?_) (fun h => by cases h)
        clear tt0
        refine awp_seq ?_
        refine awp_go hmix ?_
        refine go_run' ttok 1 rfl ?_
        refine go_nil nd ?_
        refine then_norm ?_
        refine awp_ret ?_
        refine then_ret ?_
        have e11 := of_some h
        subst e11
        refine ret_ret ?_
        refine fin0 ttok rfl rfl ?_
        exact (wkP_refl _ rfl)
      · rw [g10]
        replace h := of_bif_f h g10
        refine go_run' ttok 3 rfl ?_
        refine go_nil nd ?_
        refine then_norm ?_
        refine awp_cond (b := (decide (1000 < wv))) rfl (fun c12 => ?_) (fun c12 => ?_)
        · replace h := of_bif_t h c12
          refine awp_seq ?_
          refine awp_go hmix ?_
          refine go_run' ttok 1 rfl ?_
          refine go_nil nd ?_
          refine then_norm ?_
          refine awp_ret ?_
          refine then_ret ?_
          have e13 := of_some h
          subst e13
          refine ret_ret ?_
          refine fin0 ttok rfl rfl ?_
          exact (wkP_refl _ rfl)
        · replace h := of_bif_f h c12
          refine awp_skip ?_
          refine then_norm ?_
          refine awp_seq ?_
          refine awp_seq ?_
          refine awp_go hmix ?_
          refine go_run' ttok 5 rfl ?_
          refine go_gcase rfl rfl rfl (fun g14 => ?_) (fun g14 => ?_)
          · rw [g14]
            replace h := of_bif_t h g14
            refine go_run' ttok 58 rfl ?_
            refine go_nil (fun _ => by kernel_rfl) ?_
            refine then_norm ?_
            refine awp_cond rfl (fun tt0 => ?_) (fun h => by cases h)
            clear tt0
            refine awp_seq ?_
            refine awp_go hmix ?_
            refine go_run' ttok 3 rfl ?_
            refine go_gcase rfl rfl rfl (fun g15 => ?_) (fun g15 => ?_)
            · rw [g15]
              replace h := of_bif_t h g15
              obtain ⟨av2, hv16, h⟩ := of_obind h
              refine go_call fn13 (l20_awake_w av2 hv16) rfl rfl rfl rfl rfl rfl rfl ?_
              refine go_run' ttok 2 rfl ?_
              refine go_nil nd ?_
              refine then_norm ?_
              refine awp_ret ?_
              refine then_ret ?_
              have e17 := of_some h
              subst e17
              refine ret_ret ?_
              refine fin0 ttok rfl rfl ?_
              exact (wkP_refl _ rfl)
            · rw [g15]
              replace h := of_bif_f h g15
              refine go_run' ttok 3 rfl ?_
              refine go_nil nd ?_
              refine then_norm ?_
              refine awp_ret ?_
              refine then_ret ?_
              have e18 := of_some h
              subst e18
              refine ret_ret ?_
              refine fin0 ttok rfl rfl ?_
              exact (wkP_refl _ rfl)
          · rw [g14]
            replace h := of_bif_f h g14
            refine go_run' ttok 6 rfl ?_
            refine go_gcase rfl rfl rfl (fun g19 => ?_) (fun g19 => ?_)
            · rw [g19]
              replace h := of_bif_t h g19
              refine go_run' ttok 52 rfl ?_
              refine go_nil (fun _ => by kernel_rfl) ?_
              refine then_norm ?_
              refine awp_cond rfl (fun tt0 => ?_) (fun h => by cases h)
              clear tt0
              refine awp_seq ?_
              refine awp_go hmix ?_
              refine go_run' ttok 3 rfl ?_
              refine go_gcase rfl rfl rfl (fun g20 => ?_) (fun g20 => ?_)
              · rw [g20]
                replace h := of_bif_t h g20
                obtain ⟨av3, hv21, h⟩ := of_obind h
                refine go_call fn13 (l20_awake_w av3 hv21) rfl rfl rfl rfl rfl rfl rfl ?_
                refine go_run' ttok 2 rfl ?_
                refine go_nil nd ?_
                refine then_norm ?_
                refine awp_ret ?_
                refine then_ret ?_
                have e22 := of_some h
                subst e22
                refine ret_ret ?_
                refine fin0 ttok rfl rfl ?_
                exact (wkP_refl _ rfl)
              · rw [g20]
                replace h := of_bif_f h g20
                refine go_run' ttok 3 rfl ?_
                refine go_nil nd ?_
                refine then_norm ?_
                refine awp_ret ?_
                refine then_ret ?_
                have e23 := of_some h
                subst e23
                refine ret_ret ?_
                refine fin0 ttok rfl rfl ?_
                exact (wkP_refl _ rfl)
            · rw [g19]
              replace h := of_bif_f h g19
              refine go_run' ttok 6 rfl ?_
              refine go_gcase rfl rfl rfl (fun g24 => ?_) (fun g24 => ?_)
              · rw [g24]
                replace h := of_bif_t h g24
                refine go_run' ttok 46 rfl ?_
                refine go_nil (fun _ => by kernel_rfl) ?_
                refine then_norm ?_
                refine awp_cond rfl (fun tt0 => ?_) (fun h => by cases h)
                clear tt0
                refine awp_seq ?_
                refine awp_go hmix ?_
                refine go_run' ttok 3 rfl ?_
                refine go_gcase rfl rfl rfl (fun g25 => ?_) (fun g25 => ?_)
                · rw [g25]
                  replace h := of_bif_t h g25
                  obtain ⟨av4, hv26, h⟩ := of_obind h
                  refine go_call fn13 (l20_awake_w av4 hv26) rfl rfl rfl rfl rfl rfl rfl ?_
                  refine go_run' ttok 2 rfl ?_
                  refine go_nil nd ?_
                  refine then_norm ?_
                  refine awp_ret ?_
                  refine then_ret ?_
                  have e27 := of_some h
                  subst e27
                  refine ret_ret ?_
                  refine fin0 ttok rfl rfl ?_
                  exact (wkP_refl _ rfl)
                · rw [g25]
                  replace h := of_bif_f h g25
                  refine go_run' ttok 3 rfl ?_
                  refine go_nil nd ?_
                  refine then_norm ?_
                  refine awp_ret ?_
                  refine then_ret ?_
                  have e28 := of_some h
                  subst e28
                  refine ret_ret ?_
                  refine fin0 ttok rfl rfl ?_
                  exact (wkP_refl _ rfl)
              · rw [g24]
                replace h := of_bif_f h g24
                refine go_run' ttok 6 rfl ?_
                refine go_gcase rfl rfl rfl (fun g29 => ?_) (fun g29 => ?_)
                · rw [g29]
                  replace h := of_bif_t h g29
                  refine go_run' ttok 40 rfl ?_
                  refine go_nil (fun _ => by kernel_rfl) ?_
                  refine then_norm ?_
                  refine awp_cond rfl (fun tt0 => ?_) (fun h => by cases h)
                  clear tt0
                  refine awp_seq ?_
                  refine awp_go hmix ?_
                  refine go_run' ttok 3 rfl ?_
                  refine go_gcase rfl rfl rfl (fun g30 => ?_) (fun g30 => ?_)
                  · rw [g30]
                    replace h := of_bif_t h g30
                    obtain ⟨av5, hv31, h⟩ := of_obind h
                    refine go_call fn13 (l20_awake_w av5 hv31) rfl rfl rfl rfl rfl rfl rfl ?_
                    refine go_run' ttok 2 rfl ?_
                    refine go_nil nd ?_
                    refine then_norm ?_
                    refine awp_ret ?_
                    refine then_ret ?_
                    have e32 := of_some h
                    subst e32
                    refine ret_ret ?_
                    refine fin0 ttok rfl rfl ?_
                    exact (wkP_refl _ rfl)
                  · rw [g30]
                    replace h := of_bif_f h g30
                    refine go_run' ttok 3 rfl ?_
                    refine go_nil nd ?_
                    refine then_norm ?_
                    refine awp_ret ?_
                    refine then_ret ?_
                    have e33 := of_some h
                    subst e33
                    refine ret_ret ?_
                    refine fin0 ttok rfl rfl ?_
                    exact (wkP_refl _ rfl)
                · rw [g29]
                  replace h := of_bif_f h g29
                  refine go_run' ttok 6 rfl ?_
                  refine go_gcase rfl rfl rfl (fun g34 => ?_) (fun g34 => ?_)
                  · rw [g34]
                    replace h := of_bif_t h g34
                    refine go_run' ttok 34 rfl ?_
                    refine go_nil (fun _ => by kernel_rfl) ?_
                    refine then_norm ?_
                    refine awp_cond rfl (fun tt0 => ?_) (fun h => by cases h)
                    clear tt0
                    refine awp_seq ?_
                    refine awp_go hmix ?_
                    refine go_run' ttok 3 rfl ?_
                    refine go_gcase rfl rfl rfl (fun g35 => ?_) (fun g35 => ?_)
                    · rw [g35]
                      replace h := of_bif_t h g35
                      obtain ⟨av6, hv36, h⟩ := of_obind h
                      refine go_call fn13 (l20_awake_w av6 hv36) rfl rfl rfl rfl rfl rfl rfl ?_
                      refine go_run' ttok 2 rfl ?_
                      refine go_nil nd ?_
                      refine then_norm ?_
                      refine awp_ret ?_
                      refine then_ret ?_
                      have e37 := of_some h
                      subst e37
                      refine ret_ret ?_
                      refine fin0 ttok rfl rfl ?_
                      exact (wkP_refl _ rfl)
                    · rw [g35]
                      replace h := of_bif_f h g35
                      refine go_run' ttok 3 rfl ?_
                      refine go_nil nd ?_
                      refine then_norm ?_
                      refine awp_ret ?_
                      refine then_ret ?_
                      have e38 := of_some h
                      subst e38
                      refine ret_ret ?_
                      refine fin0 ttok rfl rfl ?_
                      exact (wkP_refl _ rfl)
                  · rw [g34]
                    replace h := of_bif_f h g34
                    refine go_run' ttok 4 rfl ?_
                    obtain ⟨lv, hv39, h⟩ := of_obind h
                    refine go_call fn27 (solid_Length_w l lv hv39) rfl rfl rfl rfl rfl rfl rfl ?_
                    refine go_run' ttok 3 rfl ?_
                    refine go_gcase rfl rfl rfl (fun g40 => ?_) (fun g40 => ?_)
                    · rw [g40]
                      replace h := of_bif_t h g40
                      refine go_run' ttok 26 rfl ?_
                      refine go_nil (fun _ => by kernel_rfl) ?_
                      refine then_norm ?_
                      refine awp_cond rfl (fun tt0 => ?_) (fun h => by cases h)
                      clear tt0
                      refine awp_seq ?_
                      refine awp_go hmix ?_
                      refine go_run' ttok 3 rfl ?_
                      refine go_gcase rfl rfl rfl (fun g41 => ?_) (fun g41 => ?_)
                      · rw [g41]
                        replace h := of_bif_t h g41
                        obtain ⟨av7, hv42, h⟩ := of_obind h
                        refine go_call fn13 (l20_awake_w av7 hv42) rfl rfl rfl rfl rfl rfl rfl ?_
                        refine go_run' ttok 2 rfl ?_
                        refine go_nil nd ?_
                        refine then_norm ?_
                        refine awp_ret ?_
                        refine then_ret ?_
                        have e43 := of_some h
                        subst e43
                        refine ret_ret ?_
                        refine fin0 ttok rfl rfl ?_
                        exact (wkP_refl _ rfl)
                      · rw [g41]
                        replace h := of_bif_f h g41
                        refine go_run' ttok 3 rfl ?_
                        refine go_nil nd ?_
                        refine then_norm ?_
                        refine awp_ret ?_
                        refine then_ret ?_
                        have e44 := of_some h
                        subst e44
                        refine ret_ret ?_
                        refine fin0 ttok rfl rfl ?_
                        exact (wkP_refl _ rfl)
                    · rw [g40]
                      replace h := of_bif_f h g40
                      refine go_run' ttok 9 rfl ?_
                      refine go_gcase rfl rfl rfl (fun g45 => ?_) (fun g45 => ?_)
                      · rw [g45]
                        replace h := of_bif_t h g45
                        refine go_run' ttok 17 rfl ?_
                        refine go_nil (fun _ => by kernel_rfl) ?_
                        refine then_norm ?_
                        refine awp_cond rfl (fun tt0 => ?_) (fun h => by cases h)
                        clear tt0
                        refine awp_seq ?_
                        refine awp_go hmix ?_
                        refine go_run' ttok 3 rfl ?_
                        refine go_gcase rfl rfl rfl (fun g46 => ?_) (fun g46 => ?_)
                        · rw [g46]
                          replace h := of_bif_t h g46
                          obtain ⟨av8, hv47, h⟩ := of_obind h
                          refine go_call fn13 (l20_awake_w av8 hv47) rfl rfl rfl rfl rfl rfl rfl ?_
                          refine go_run' ttok 2 rfl ?_
                          refine go_nil nd ?_
                          refine then_norm ?_
                          refine awp_ret ?_
                          refine then_ret ?_
                          have e48 := of_some h
                          subst e48
                          refine ret_ret ?_
                          refine fin0 ttok rfl rfl ?_
                          exact (wkP_refl _ rfl)
                        · rw [g46]
                          replace h := of_bif_f h g46
                          refine go_run' ttok 3 rfl ?_
                          refine go_nil nd ?_
                          refine then_norm ?_
                          refine awp_ret ?_
                          refine then_ret ?_
                          have e49 := of_some h
                          subst e49
                          refine ret_ret ?_
                          refine fin0 ttok rfl rfl ?_
                          exact (wkP_refl _ rfl)
                      · rw [g45]
                        replace h := of_bif_f h g45
                        refine go_run' ttok 9 rfl ?_
                        refine go_gcase rfl rfl rfl (fun g50 => ?_) (fun g50 => ?_)
                        · rw [g50]
                          replace h := of_bif_t h g50
                          refine go_run' ttok 8 rfl ?_
                          refine go_nil (fun _ => by kernel_rfl) ?_
                          refine then_norm ?_
                          refine awp_cond rfl (fun tt0 => ?_) (fun h => by cases h)
                          clear tt0
                          refine awp_seq ?_
                          refine awp_go hmix ?_
                          refine go_run' ttok 3 rfl ?_
                          refine go_gcase rfl rfl rfl (fun g51 => ?_) (fun g51 => ?_)
                          · rw [g51]
                            replace h := of_bif_t h g51
                            obtain ⟨av9, hv52, h⟩ := of_obind h
                            refine go_call fn13 (l20_awake_w av9 hv52) rfl rfl rfl rfl rfl rfl rfl ?_
                            refine go_run' ttok 2 rfl ?_
                            refine go_nil nd ?_
                            refine then_norm ?_
                            refine awp_ret ?_
                            refine then_ret ?_
                            have e53 := of_some h
                            subst e53
                            refine ret_ret ?_
                            refine fin0 ttok rfl rfl ?_
                            exact (wkP_refl _ rfl)
                          · rw [g51]
                            replace h := of_bif_f h g51
                            refine go_run' ttok 3 rfl ?_
                            refine go_nil nd ?_
                            refine then_norm ?_
                            refine awp_ret ?_
                            refine then_ret ?_
                            have e54 := of_some h
                            subst e54
                            refine ret_ret ?_
                            refine fin0 ttok rfl rfl ?_
                            exact (wkP_refl _ rfl)
                        · rw [g50]
                          replace h := of_bif_f h g50
                          refine go_run' ttok 8 rfl ?_
                          refine go_nil (fun _ => by kernel_rfl) ?_
                          refine then_norm ?_
                          refine awp_cond (b := (decide (b.z.b ≤ b.z.a))) rfl (fun c55 => ?_) (fun c55 => ?_)
                          · replace h := of_bif_t h c55
                            refine awp_seq ?_
                            refine awp_go hmix ?_
                            refine go_run' ttok 3 rfl ?_
                            refine go_gcase rfl rfl rfl (fun g56 => ?_) (fun g56 => ?_)
                            · rw [g56]
                              replace h := of_bif_t h g56
                              obtain ⟨av10, hv57, h⟩ := of_obind h
                              refine go_call fn13 (l20_awake_w av10 hv57) rfl rfl rfl rfl rfl rfl rfl ?_
                              refine go_run' ttok 2 rfl ?_
                              refine go_nil nd ?_
                              refine then_norm ?_
                              refine awp_ret ?_
                              refine then_ret ?_
                              have e58 := of_some h
                              subst e58
                              refine ret_ret ?_
                              refine fin0 ttok rfl rfl ?_
                              exact (wkP_refl _ rfl)
                            · rw [g56]
                              replace h := of_bif_f h g56
                              refine go_run' ttok 3 rfl ?_
                              refine go_nil nd ?_
                              refine then_norm ?_
                              refine awp_ret ?_
                              refine then_ret ?_
                              have e59 := of_some h
                              subst e59
                              refine ret_ret ?_
                              refine fin0 ttok rfl rfl ?_
                              exact (wkP_refl _ rfl)
                          · replace h := of_bif_f h c55
                            refine awp_skip ?_
                            refine then_norm ?_
                            refine awp_seq ?_
                            refine awp_go hmix ?_
                            refine go_run' ttok 24 rfl ?_
                            refine go_nil nd ?_
                            refine then_norm ?_
                            refine awp_seq ?_
                            refine awp_go hmix ?_
                            refine go_run' ttok 3 rfl ?_
                            obtain ⟨wv1, hv60, h⟩ := of_obind h
                            refine go_call fn28 (solid_Within_w l b wv1 hv60) rfl rfl rfl rfl rfl rfl rfl ?_
                            refine go_run' ttok 2 rfl ?_
                            refine go_nil nd ?_
                            refine then_norm ?_
                            refine awp_seq ?_
                            refine awp_seq ?_
                            refine awp_go hmix ?_
                            refine go_run' ttok 3 rfl ?_
                            refine go_gcase rfl rfl rfl (fun g61 => ?_) (fun g61 => ?_)
                            · rw [g61]
                              replace h := of_bif_t h g61
                              refine go_run' ttok 14 rfl ?_
                              refine go_nil nd ?_
                              refine then_norm ?_
                              refine awp_cond rfl (fun tt0 => ?_) (fun h => by cases h)
                              clear tt0
                              refine awp_seq ?_
                              refine awp_go hmix ?_
                              refine go_run' ttok 1 rfl ?_
                              refine go_nil nd ?_
                              refine then_norm ?_
                              refine awp_ret ?_
                              refine then_ret ?_
                              have e62 := of_some h
                              subst e62
                              refine ret_ret ?_
                              refine fin0 ttok rfl rfl ?_
                              exact (wkP_refl _ rfl)
                            · rw [g61]
                              replace h := of_bif_f h g61
                              refine go_run' ttok 4 rfl ?_
                              refine go_step rfl (as_neBool rfl (ttok _ _ rfl) rfl rfl rfl) rfl rfl rfl ?_
                              refine go_run' ttok 2 rfl ?_
                              refine go_gcase rfl rfl rfl (fun g63 => ?_) (fun g63 => ?_)
                              · rw [g63]
                                replace h := of_bif_t h g63
                                refine go_run' ttok 7 rfl ?_
                                refine go_nil nd ?_
                                refine then_norm ?_
                                refine awp_cond rfl (fun tt0 => ?_) (fun h => by cases h)
                                clear tt0
                                refine awp_seq ?_
                                refine awp_go hmix ?_
                                refine go_run' ttok 1 rfl ?_
                                refine go_nil nd ?_
                                refine then_norm ?_
                                refine awp_ret ?_
                                refine then_ret ?_
                                have e64 := of_some h
                                subst e64
                                refine ret_ret ?_
                                refine fin0 ttok rfl rfl ?_
                                exact (wkP_refl _ rfl)
                              · rw [g63]
                                replace h := of_bif_f h g63
                                refine go_run' ttok 7 rfl ?_
                                refine go_nil nd ?_
                                refine then_norm ?_
                                refine awp_cond (b := (decide ((W64 (wv * (W64 ((W64 ((W64 (b.x.b - b.x.a)) * (W64 (b.y.b - b.y.a)))) * (W64 (b.z.b - b.z.a)))))) < (W64 (1000 * (W64 ((W64 ((W64 ((W64 (b.x.b - b.x.a)) * (W64 (b.y.b - b.y.a)))) * (W64 (b.z.b - b.z.a)))) - wv1))))))) rfl (fun c65 => ?_) (fun c65 => ?_)
                                · replace h := of_bif_t h c65
                                  refine awp_seq ?_
                                  refine awp_go hmix ?_
                                  refine go_run' ttok 1 rfl ?_
                                  refine go_nil nd ?_
                                  refine then_norm ?_
                                  refine awp_ret ?_
                                  refine then_ret ?_
                                  have e66 := of_some h
                                  subst e66
                                  refine ret_ret ?_
                                  refine fin0 ttok rfl rfl ?_
                                  exact (wkP_refl _ rfl)
                                · replace h := of_bif_f h c65
                                  refine awp_skip ?_
                                  refine then_norm ?_
                                  refine awp_seq ?_
                                  refine awp_go hmix ?_
                                  refine go_run' ttok 3 rfl ?_
                                  refine go_nil nd ?_
                                  refine then_norm ?_
                                  refine awp_seq ?_
                                  refine awp_go hmix ?_
                                  refine go_run' ttok 15 rfl ?_
                                  refine go_nil nd ?_
                                  refine then_norm ?_
                                  refine awp_seq ?_
                                  refine awp_go hmix ?_
                                  refine go_run' ttok 8 rfl ?_
                                  refine go_gcase rfl rfl rfl (fun g67 => ?_) (fun g67 => ?_)
                                  · rw [g67]
                                    replace h := of_bif_t h g67
                                    refine go_run' ttok 7 rfl ?_
                                    obtain ⟨av11, hv68, h⟩ := of_obind h
                                    refine go_call fn13 (l20_awake_w av11 hv68) rfl rfl rfl rfl rfl rfl rfl ?_
                                    refine go_run' ttok 2 rfl ?_
                                    refine go_nil nd ?_
                                    refine then_norm ?_
                                    refine awp_ret ?_
                                    have e69 := of_some h
                                    subst e69
                                    refine ret_ret ?_
                                    refine fin0 ttok rfl rfl ?_
                                    exact (wkP_refl _ rfl)
                                  · rw [g67]
                                    replace h := of_bif_f h g67
                                    refine go_run' ttok 2 rfl ?_
                                    obtain ⟨wv2, hv70, h⟩ := of_obind h
                                    refine go_call fn15 (worth_Wane_w l (⟨b.x, b.y, (⟨(max b.z.a vz.a), (min b.z.b vz.b)⟩ : Sp)⟩ : Bx) wv2 hv70) rfl rfl rfl rfl rfl rfl rfl ?_
                                    refine go_run' ttok 4 rfl ?_
                                    refine go_gcase rfl rfl rfl (fun g71 => ?_) (fun g71 => ?_)
                                    · rw [g71]
                                      replace h := of_bif_t h g71
                                      obtain ⟨av12, hv72, h⟩ := of_obind h
                                      refine go_call fn13 (l20_awake_w av12 hv72) rfl rfl rfl rfl rfl rfl rfl ?_
                                      refine go_run' ttok 2 rfl ?_
                                      refine go_nil nd ?_
                                      refine then_norm ?_
                                      refine awp_ret ?_
                                      have e73 := of_some h
                                      subst e73
                                      refine ret_ret ?_
                                      refine fin0 ttok rfl rfl ?_
                                      exact (wkP_refl _ rfl)
                                    · rw [g71]
                                      replace h := of_bif_f h g71
                                      refine go_run' ttok 3 rfl ?_
                                      refine go_nil nd ?_
                                      refine then_norm ?_
                                      refine awp_ret ?_
                                      have e74 := of_some h
                                      subst e74
                                      refine ret_ret ?_
                                      refine fin0 ttok rfl rfl ?_
                                      exact (wkP_refl _ rfl)

end Go.Proofs.Ytjdgaclkcmjjcaa
