/- A1a: what functions of the program compute (written by mod.py). -/
import Derived.Test.YtmfgheklnjmbjaaTy
import Derived.KernelRfl
namespace Go.Proofs.Ytmfgheklnjmbjaa
open Go Go.Ab
set_option linter.unusedSimpArgs false
set_option linter.unusedVariables false
set_option maxRecDepth 20000

noncomputable def l19_Short_s1 (l : (List TProduct)) (i : Int) : Option (Int ⊕ (Bool ⊕ Unit)) :=
  (bif (decide (i < ((l.length : Nat) : Int))) then (bif (decide (20 ≤ i)) then some (Sum.inr (Sum.inl false)) else (Option.bind (getI l i) (fun e => (bif (decide (12 < ((e.Lengths.length : Nat) : Int))) then some (Sum.inr (Sum.inl false)) else (Option.bind (getI l i) (fun e1 => (bif (decide (12 < ((e1.Prices.length : Nat) : Int))) then some (Sum.inr (Sum.inl false)) else (Option.bind (getI l i) (fun e2 => (bif (decide (100 < ((e2.Name.size : Nat) : Int))) then some (Sum.inr (Sum.inl false)) else some (Sum.inl (W64 (i + 1))))))))))))) else some (Sum.inr (Sum.inr ())))
/-- sawmill/sawmilllaw19.Short -/
noncomputable def l19_Short_g (l : (List TProduct)) : Option Bool :=
  (Option.bind ((loopO (fun q => l19_Short_s1 l q) 0) : Option (Bool ⊕ Unit)) (Sum.elim (fun q => some q) (fun _ => some true)))
theorem l19_Short_w (l : (List TProduct)) (r : Bool) (h : l19_Short_g l = some r) : Holds Try.prog 10 [((encL encTProduct) l)] [] (B r) [] := by
  unfold l19_Short_g at h
  refine holds_fn Try.func10 rfl Try.ntmps10 rfl rfl rfl (fun lim => ?_)
  refine awp_seq ?_
  refine awp_go hmix ?_
  refine go_run' ttok 1 rfl ?_
  refine go_nil nd ?_
  refine then_norm ?_
  obtain ⟨y, hx1, h⟩ := of_obind h
  refine awp_seqJ (X := Unit) [] [] (fun _ => []) (fun _ => []) (fun w => Sum.inr w = y) rfl rfl ?_ ?_
  · skip
    refine awp_seq ?_
    refine awp_go hmix ?_
    refine go_run' ttok 1 rfl ?_
    refine go_nil nd ?_
    refine then_norm ?_
    refine awp_block ?_
    refine awp_loopD (X := Int) (Y := (Bool ⊕ Unit)) [0] [] (fun q => [(3, (I q))]) (fun q => []) (fun q => l19_Short_s1 l q) 0 [] hx1 ⟨rfl, rfl, rfl, rfl, rfl, ⟨wkP_id _ rfl, trivial⟩, trivial⟩ (fun i vR vz hz3 hk4 => ?_)
    change l19_Short_s1 l i = _ at hz3
    unfold l19_Short_s1 at hz3
    refine awp_seq ?_
    refine awp_seq ?_
    refine awp_go hmix ?_
    refine go_run' ttok 2 rfl ?_
    refine go_lenT encTProduct l ttok rfl rfl rfl rfl rfl rfl ?_
    refine go_run' ttok 1 rfl ?_
    refine go_nil nd ?_
    refine then_norm ?_
    refine awp_cond (b := (decide (i < ((l.length : Nat) : Int)))) rfl (fun c5 => ?_) (fun c5 => ?_)
    · replace hz3 := of_bif_t hz3 c5
      refine awp_skip ?_
      refine then_norm ?_
      refine awp_seq ?_
      refine awp_block ?_
      refine awp_seq ?_
      refine awp_go hmix ?_
      refine go_run' ttok 3 rfl ?_
      refine go_gcase rfl rfl rfl (fun g6 => ?_) (fun g6 => ?_)
      · rw [g6]
        replace hz3 := of_bif_t hz3 g6
        refine go_run' ttok 26 rfl ?_
        refine go_nil nd ?_
        refine then_norm ?_
        refine awp_cond rfl (fun tt0 => ?_) (fun h => by cases h)
        clear tt0
        refine awp_seq ?_
        refine awp_go hmix ?_
        refine go_run' ttok 1 rfl ?_
        refine go_nil nd ?_
        refine then_norm ?_
        refine awp_ret ?_
        refine block_ret ?_
        refine then_ret ?_
        obtain ⟨t, hn7, hq⟩ := of_mapr' hz3
        subst hq
        have hq : t = _ := hk4
        subst hq
        refine then_ret ?_
        refine block_ret ?_
        obtain ⟨t1, hn8, hq⟩ := of_mapl' hn7
        subst hq
        have hq := of_inl h
        replace hq := of_some hq
        subst hq
        refine then_ret ?_
        have e9 := of_some hn8
        subst e9
        refine ret_ret ?_
        refine fin0 ttok rfl rfl ?_
        exact (wkP_refl _ rfl)
      · rw [g6]
        replace hz3 := of_bif_f hz3 g6
        refine go_run' ttok 2 rfl ?_
        obtain ⟨e, hv10, hz3⟩ := of_obind hz3
        refine go_indexT encTProduct l i e hv10 ttok rfl rfl rfl rfl rfl rfl rfl rfl rfl ?_
        refine go_run' ttok 2 rfl ?_
        refine go_lenT I e.Lengths ttok rfl rfl rfl rfl rfl rfl ?_
        refine go_run' ttok 3 rfl ?_
        refine go_gcase rfl rfl rfl (fun g11 => ?_) (fun g11 => ?_)
        · rw [g11]
          replace hz3 := of_bif_t hz3 g11
          refine go_run' ttok 17 rfl ?_
          refine go_nil nd ?_
          refine then_norm ?_
          refine awp_cond rfl (fun tt0 => ?_) (fun h => by cases h)
          clear tt0
          refine awp_seq ?_
          refine awp_go hmix ?_
          refine go_run' ttok 1 rfl ?_
          refine go_nil nd ?_
          refine then_norm ?_
          refine awp_ret ?_
          refine block_ret ?_
          refine then_ret ?_
          obtain ⟨t2, hn12, hq⟩ := of_mapr' hz3
          subst hq
          have hq : t2 = _ := hk4
          subst hq
          refine then_ret ?_
          refine block_ret ?_
          obtain ⟨t3, hn13, hq⟩ := of_mapl' hn12
          subst hq
          have hq := of_inl h
          replace hq := of_some hq
          subst hq
          refine then_ret ?_
          have e14 := of_some hn13
          subst e14
          refine ret_ret ?_
          refine fin0 ttok rfl rfl ?_
          exact (wkP_refl _ rfl)
        · rw [g11]
          replace hz3 := of_bif_f hz3 g11
          refine go_run' ttok 2 rfl ?_
          obtain ⟨e1, hv15, hz3⟩ := of_obind hz3
          refine go_indexT encTProduct l i e1 hv15 ttok rfl rfl rfl rfl rfl rfl rfl rfl rfl ?_
          refine go_run' ttok 2 rfl ?_
          refine go_lenT I e1.Prices ttok rfl rfl rfl rfl rfl rfl ?_
          refine go_run' ttok 3 rfl ?_
          refine go_gcase rfl rfl rfl (fun g16 => ?_) (fun g16 => ?_)
          · rw [g16]
            replace hz3 := of_bif_t hz3 g16
            refine go_run' ttok 8 rfl ?_
            refine go_nil nd ?_
            refine then_norm ?_
            refine awp_cond rfl (fun tt0 => ?_) (fun h => by cases h)
            clear tt0
            refine awp_seq ?_
            refine awp_go hmix ?_
            refine go_run' ttok 1 rfl ?_
            refine go_nil nd ?_
            refine then_norm ?_
            refine awp_ret ?_
            refine block_ret ?_
            refine then_ret ?_
            obtain ⟨t4, hn17, hq⟩ := of_mapr' hz3
            subst hq
            have hq : t4 = _ := hk4
            subst hq
            refine then_ret ?_
            refine block_ret ?_
            obtain ⟨t5, hn18, hq⟩ := of_mapl' hn17
            subst hq
            have hq := of_inl h
            replace hq := of_some hq
            subst hq
            refine then_ret ?_
            have e19 := of_some hn18
            subst e19
            refine ret_ret ?_
            refine fin0 ttok rfl rfl ?_
            exact (wkP_refl _ rfl)
          · rw [g16]
            replace hz3 := of_bif_f hz3 g16
            refine go_run' ttok 2 rfl ?_
            obtain ⟨e2, hv20, hz3⟩ := of_obind hz3
            refine go_indexT encTProduct l i e2 hv20 ttok rfl rfl rfl rfl rfl rfl rfl rfl rfl ?_
            refine go_run' ttok 5 rfl ?_
            refine go_nil nd ?_
            refine then_norm ?_
            refine awp_cond (b := (decide (100 < ((e2.Name.size : Nat) : Int)))) rfl (fun c21 => ?_) (fun c21 => ?_)
            · replace hz3 := of_bif_t hz3 c21
              refine awp_seq ?_
              refine awp_go hmix ?_
              refine go_run' ttok 1 rfl ?_
              refine go_nil nd ?_
              refine then_norm ?_
              refine awp_ret ?_
              refine block_ret ?_
              refine then_ret ?_
              obtain ⟨t6, hn22, hq⟩ := of_mapr' hz3
              subst hq
              have hq : t6 = _ := hk4
              subst hq
              refine then_ret ?_
              refine block_ret ?_
              obtain ⟨t7, hn23, hq⟩ := of_mapl' hn22
              subst hq
              have hq := of_inl h
              replace hq := of_some hq
              subst hq
              refine then_ret ?_
              have e24 := of_some hn23
              subst e24
              refine ret_ret ?_
              refine fin0 ttok rfl rfl ?_
              exact (wkP_refl _ rfl)
            · replace hz3 := of_bif_f hz3 c21
              refine awp_skip ?_
              refine block_norm ?_
              refine then_norm ?_
              refine awp_go hmix ?_
              refine go_run' ttok 3 rfl ?_
              refine go_nil nd ?_
              have e25 := of_some hz3
              subst e25
              refine then_norm ⟨rfl, (W64 (i + 1)), [], ⟨rfl, rfl, rfl, rfl, rfl, ⟨wkP_id _ rfl, trivial⟩, trivial⟩, hk4⟩
    · replace hz3 := of_bif_f hz3 c5
      refine awp_exit ?_
      refine then_exit ?_
      obtain ⟨t8, hn26, hq⟩ := of_mapr' hz3
      subst hq
      have hq : t8 = _ := hk4
      subst hq
      refine then_exit ?_
      refine block_here ?_
      have e27 := of_some hn26
      refine then_norm ⟨rfl, (), [], ⟨rfl, rfl, rfl, rfl, rfl, trivial, trivial⟩, e27⟩
  · intro w hw2
    subst hw2
    replace h := of_inr h
    refine awp_seq ?_
    refine awp_go hmix ?_
    refine go_run' ttok 1 rfl ?_
    refine go_nil nd ?_
    refine then_norm ?_
    refine awp_ret ?_
    have e28 := of_some h
    subst e28
    refine ret_ret ?_
    refine fin0 ttok rfl rfl ?_
    exact (wkP_refl _ rfl)

/-- sawmill/sawmilllaw46.sample -/
noncomputable def l46_sample_g : (TOrder × TBoard) :=
  ((⟨(⟨#[]⟩ : ByteArray), (⟨#[112, 105, 110, 101]⟩ : ByteArray), 0, 2000, 3, 1800, 10, 2, 3, 0, 0⟩ : TOrder), (⟨(⟨#[]⟩ : ByteArray), (⟨#[]⟩ : ByteArray), (⟨#[112, 105, 110, 101]⟩ : ByteArray), 0, (⟨(⟨0, 0⟩ : Sp), (⟨0, 0⟩ : Sp), (⟨0, 2000⟩ : Sp)⟩ : Bx), 0, [], 0, (⟨1700, 1850, 0⟩ : TCell), true, 2⟩ : TBoard))
theorem l46_sample_w (r : (TOrder × TBoard)) (h : l46_sample_g = r) : Holds Try.prog 26 [] [] (.tup [(encTOrder r.1), (encTBoard r.2)]) [] := by
  unfold l46_sample_g at h
  refine holds_fn Try.func26 rfl Try.ntmps26 rfl rfl rfl (fun lim => ?_)
  refine awp_seq ?_
  refine awp_go hmix ?_
  refine go_run' ttok 2 rfl ?_
  refine go_nil nd ?_
  refine then_norm ?_
  refine awp_seq ?_
  refine awp_go hmix ?_
  refine go_run' ttok 3 rfl ?_
  refine go_nil nd ?_
  refine then_norm ?_
  refine awp_seq ?_
  refine awp_go hmix ?_
  refine go_run' ttok 6 rfl ?_
  refine go_nil nd ?_
  refine then_norm ?_
  refine awp_seq ?_
  refine awp_go hmix ?_
  refine go_run' ttok 4 rfl ?_
  refine go_nil (fun _ => by kernel_rfl) ?_
  refine then_norm ?_
  refine awp_ret ?_
  have e1 := h
  subst e1
  refine ret_ret ?_
  refine fin0 ttok rfl rfl ?_
  exact ⟨(wkP_refl _ rfl), ⟨(wkP_refl _ rfl), (wkP_refl _ rfl), (wkP_refl _ rfl), (wkP_refl _ rfl), (wkP_refl _ rfl), (wkP_refl _ rfl), (wkP_refl _ rfl), (wkP_refl _ rfl), (wkP_refl _ rfl), (wkP_refl _ rfl), (wkP_refl _ rfl), wkP_nilm, (wkP_refl _ rfl), (wkP_refl _ rfl), (wkP_refl _ rfl), (wkP_refl _ rfl), (wkP_refl _ rfl), (wkP_refl _ rfl), trivial⟩, trivial⟩

noncomputable def wire_Uint_s1 (n2 : Int) (b1 : (List Int)) : Option ((Int × (List Int)) ⊕ (Int × (List Int))) :=
  (bif (decide (128 ≤ n2)) then (Option.bind (appO 1 b1 ([(bOr .u8 (WU8 n2) 128)])) (fun l => some (Sum.inl ((bShr .u64 n2 7), l)))) else some (Sum.inr (n2, b1)))
/-- sawmill/wire.Uint -/
noncomputable def wire_Uint_g (n : Int) : Option ByteArray :=
  (Option.bind ((loopO (fun q => wire_Uint_s1 q.1 q.2) (n, [])) : Option (Int × (List Int))) (fun w1 => (Option.bind (appO 1 w1.2 ([(WU8 w1.1)])) (fun l1 => some (b2s l1)))))
theorem wire_Uint_w (n : Int) (r : ByteArray) (h : wire_Uint_g n = some r) : Holds Try.prog 70 [(U64 n)] [] (S r) [] := by
  unfold wire_Uint_g at h
  refine holds_fn Try.func70 rfl Try.ntmps70 rfl rfl rfl (fun lim => ?_)
  refine awp_seq ?_
  refine awp_go hmix ?_
  refine go_run' ttok 1 rfl ?_
  refine go_nil nd ?_
  refine then_norm ?_
  refine awp_seq ?_
  refine awp_go hmix ?_
  refine go_run' ttok 1 rfl ?_
  refine go_nil nd ?_
  refine then_norm ?_
  obtain ⟨y, hx1, h⟩ := of_obind h
  refine awp_seqJ (X := (Int × (List Int))) [] [] (fun w => [(0, (U64 w.1)), (3, (.arr 3 0 w.2.length))]) (fun w => [(3, some ⟨5, 1, w.2.map U8⟩)]) (fun w => w = y) rfl rfl ?_ ?_
  · skip
    refine awp_block ?_
    refine awp_loopD (X := (Int × (List Int))) (Y := (Int × (List Int))) [] [] (fun q => [(0, (U64 q.1)), (3, (.arr 3 0 q.2.length))]) (fun q => [(3, some ⟨5, 1, q.2.map U8⟩)]) (fun q => wire_Uint_s1 q.1 q.2) (n, []) [(3, none)] hx1 ⟨rfl, rfl, rfl, rfl, rfl, ⟨wkP_id _ rfl, ⟨rfl, rfl, (by first | rfl | simp [setI])⟩, trivial⟩, ⟨rfl, trivial⟩⟩ (fun x vR vz hz3 hk4 => ?_)
    obtain ⟨n2, b1⟩ := x
    change wire_Uint_s1 n2 b1 = _ at hz3
    unfold wire_Uint_s1 at hz3
    refine awp_seq ?_
    refine awp_seq ?_
    refine awp_go hmix ?_
    refine go_run' ttok 2 rfl ?_
    refine go_nil nd ?_
    refine then_norm ?_
    refine awp_cond (b := (decide (128 ≤ n2))) rfl (fun c5 => ?_) (fun c5 => ?_)
    · replace hz3 := of_bif_t hz3 c5
      refine awp_skip ?_
      refine then_norm ?_
      refine awp_block ?_
      refine awp_seq ?_
      refine awp_go hmix ?_
      refine go_run' ttok 5 rfl ?_
      obtain ⟨l, hv6, hz3⟩ := of_obind hz3
      refine go_appT U8 b1 ([(bOr .u8 (WU8 n2) 128)]) l hv6 (fun _ => rfl) (by first | rfl | simp [setI]) (by first | rfl | simp [setI]) ttok rfl rfl rfl rfl rfl rfl rfl rfl rfl rfl rfl rfl rfl rfl rfl rfl rfl ?_
      refine go_run' ttok 1 rfl ?_
      refine go_nil nd ?_
      refine then_norm ?_
      refine awp_go hmix ?_
      refine go_run' ttok 3 rfl ?_
      refine go_nil nd ?_
      refine block_norm ?_
      have e7 := of_some hz3
      subst e7
      refine then_norm ⟨rfl, ((bShr .u64 n2 7), l), [(3, some 11)], ⟨rfl, rfl, rfl, rfl, rfl, ⟨wkP_id _ rfl, ⟨rfl, rfl, (by first | rfl | simp [setI])⟩, trivial⟩, ⟨⟨_, rfl, rfl, rfl, wkX_map (enc := U8) l (fun _ => rfl)⟩, trivial⟩⟩, hk4⟩
    · replace hz3 := of_bif_f hz3 c5
      refine awp_exit ?_
      refine then_exit ?_
      obtain ⟨t, hn8, hq⟩ := of_mapr' hz3
      subst hq
      have hq : t = _ := hk4
      subst hq
      refine then_exit ?_
      refine block_here ?_
      have e9 := of_some hn8
      refine then_norm ⟨rfl, (n2, b1), [(3, some 3)], ⟨rfl, rfl, rfl, rfl, rfl, ⟨wkP_id _ rfl, ⟨rfl, rfl, (by first | rfl | simp [setI])⟩, trivial⟩, ⟨⟨_, rfl, rfl, rfl, wkX_map (enc := U8) b1 (fun _ => rfl)⟩, trivial⟩⟩, e9⟩
  · intro w hw2
    subst hw2
    obtain ⟨n1, b⟩ := w
    refine awp_seq ?_
    refine awp_go hmix ?_
    refine go_run' ttok 4 rfl ?_
    obtain ⟨l1, hv10, h⟩ := of_obind h
    refine go_appT U8 b ([(WU8 n1)]) l1 hv10 (fun _ => rfl) (by first | rfl | simp [setI]) (by first | rfl | simp [setI]) ttok rfl rfl rfl rfl rfl rfl rfl rfl rfl rfl rfl rfl rfl rfl rfl rfl rfl ?_
    refine go_b2s l1 (by first | rfl | simp [setI]) ttok rfl rfl rfl rfl rfl rfl rfl rfl rfl rfl rfl rfl ?_
    refine go_run' ttok 1 rfl ?_
    refine go_nil nd ?_
    refine then_norm ?_
    refine awp_ret ?_
    have e11 := of_some h
    subst e11
    refine ret_ret ?_
    refine fin0 ttok rfl rfl ?_
    exact (wkP_refl _ rfl)
noncomputable def wire_Uint_cs1 (N : Nat) (n2 : Int) (b1 : (List Int)) : Option ((Int × (List Int)) ⊕ (Int × (List Int))) :=
  (bif (decide (128 ≤ n2)) then (Option.bind (appO 1 b1 ([(bOr .u8 (WU8 n2) 128)])) (fun l => some (Sum.inl ((bShr .u64 n2 7), l)))) else some (Sum.inr (n2, b1)))
theorem wire_Uint_cs1_le (N : Nat) (n2 : Int) (b1 : (List Int)) : OLe (wire_Uint_cs1 N n2 b1) (wire_Uint_s1 n2 b1) := by
  unfold wire_Uint_cs1 wire_Uint_s1
  repeat' (first | exact ole_rfl | refine ole_bif ?_ ?_ | refine ole_bind ?_ (fun _ => ?_) | refine ole_let (fun _ => ?_) | refine ole_map ?_ | refine ole_elim (fun _ => ?_) (fun _ => ?_) | refine ole_loop (fun _ => ?_))
noncomputable def wire_Uint_c (N : Nat) (n : Int) : Option ByteArray :=
  (Option.bind ((iterX N (fun q => wire_Uint_cs1 N q.1 q.2) (n, [])) : Option (Int × (List Int))) (fun w1 => (Option.bind (appO 1 w1.2 ([(WU8 w1.1)])) (fun l1 => some (b2s l1)))))
theorem wire_Uint_le (N : Nat) (n : Int) : OLe (wire_Uint_c N n) (wire_Uint_g n) := by
  unfold wire_Uint_c wire_Uint_g
  repeat' (first | exact ole_rfl | exact wire_Uint_cs1_le _ _ _ | refine ole_bif ?_ ?_ | refine ole_bind ?_ (fun _ => ?_) | refine ole_let (fun _ => ?_) | refine ole_map ?_ | refine ole_elim (fun _ => ?_) (fun _ => ?_) | refine ole_loop (fun _ => ?_))

/-- sawmill/wire.Text -/
noncomputable def wire_Text_g (s : ByteArray) : Option ByteArray :=
  (Option.bind (wire_Uint_g (WU64 ((s.size : Nat) : Int))) (fun uv => (Option.bind (catO uv s) (fun t => some t))))
theorem wire_Text_w (s : ByteArray) (r : ByteArray) (h : wire_Text_g s = some r) : Holds Try.prog 41 [(S s)] [] (S r) [] := by
  unfold wire_Text_g at h
  refine holds_fn Try.func41 rfl Try.ntmps41 rfl rfl rfl (fun lim => ?_)
  refine awp_seq ?_
  refine awp_go hmix ?_
  refine go_run' ttok 1 rfl ?_
  refine go_nil nd ?_
  refine then_norm ?_
  refine awp_seq ?_
  refine awp_go hmix ?_
  refine go_run' ttok 3 rfl ?_
  obtain ⟨uv, hv1, h⟩ := of_obind h
  refine go_call fn70 (wire_Uint_w (WU64 ((s.size : Nat) : Int)) uv hv1) rfl rfl rfl rfl rfl rfl rfl ?_
  refine go_run' ttok 1 rfl ?_
  obtain ⟨t, hv2, h⟩ := of_obind h
  refine go_catT uv s t hv2 rfl rfl rfl rfl rfl ?_
  refine go_run' ttok 1 rfl ?_
  refine go_nil nd ?_
  refine then_norm ?_
  refine awp_ret ?_
  have e3 := of_some h
  subst e3
  refine ret_ret ?_
  refine fin0 ttok rfl rfl ?_
  exact (wkP_refl _ rfl)
noncomputable def wire_Text_c (N : Nat) (s : ByteArray) : Option ByteArray :=
  (Option.bind ((wire_Uint_c N) (WU64 ((s.size : Nat) : Int))) (fun uv => (Option.bind (catO uv s) (fun t => some t))))
theorem wire_Text_le (N : Nat) (s : ByteArray) : OLe (wire_Text_c N s) (wire_Text_g s) := by
  unfold wire_Text_c wire_Text_g
  repeat' (first | exact ole_rfl | exact wire_Uint_le _ _ | refine ole_bif ?_ ?_ | refine ole_bind ?_ (fun _ => ?_) | refine ole_let (fun _ => ?_) | refine ole_map ?_ | refine ole_elim (fun _ => ?_) (fun _ => ?_) | refine ole_loop (fun _ => ?_))

/-- (*strings.Builder).copyCheck -/
noncomputable def __strings_Builder__copyCheck_n_g (b_buf : (List Int)) : (List Int) :=
  b_buf
theorem __strings_Builder__copyCheck_n_w (b_buf : (List Int)) (r : (List Int)) (h : __strings_Builder__copyCheck_n_g b_buf = r) : Holds Try.prog 92 [(.ref 1000 0 0)] [(1000, some ⟨99, 2, [(.agg [(.sc (.pointer none)), (.arr 1101 0 b_buf.length)])]⟩), (1101, some ⟨5, 1, b_buf.map U8⟩)] (.tup []) [(1000, some ⟨99, 2, [(.agg [(.ref 1000 0 0), (.arr 811 0 r.length)])]⟩), (811, some ⟨5, 1, r.map U8⟩)] := by
  unfold __strings_Builder__copyCheck_n_g at h
  refine holds_fn Try.func92 rfl Try.ntmps92 rfl rfl rfl (fun lim => ?_)
  refine awp_seq ?_
  refine awp_go hmix ?_
  refine go_run' ttok 1 rfl ?_
  refine go_step rfl (as_nilCheck rfl rfl) rfl rfl rfl ?_
  refine go_run' ttok 2 rfl ?_
  refine go_step rfl (as_nilNil (.inl ⟨rfl, rfl⟩) rfl Try.underlying97 rfl rfl) rfl rfl rfl ?_
  refine go_nil nd ?_
  refine then_norm ?_
  refine awp_cond rfl (fun tt0 => ?_) (fun h => by cases h)
  clear tt0
  refine awp_go hmix ?_
  refine go_run' ttok 2 rfl ?_
  refine go_step rfl (as_toUnsafe rfl Try.underlying97 Try.underlying129 ty99_ok (by decide) rfl rfl (by simp)) rfl rfl rfl ?_
  refine go_step rfl (as_noEscape rfl Try.func98 (by kernel_rfl) rfl (by kernel_rfl) (by kernel_rfl) rfl) rfl rfl rfl ?_
  refine go_step rfl (as_fromUnsafe rfl Try.underlying129 Try.underlying97 ty99_ok (by kernel_rfl) rfl rfl (by simp) rfl rfl) rfl rfl rfl ?_
  refine go_step rfl (as_nilCheck rfl rfl) rfl rfl rfl ?_
  refine go_run' ttok 2 rfl ?_
  refine go_nil nd ?_
  have e1 := h
  subst e1
  refine ret_norm ?_
  exact finB [(1000, some 1000), (811, some 1101)] ttok rfl rfl rfl rfl (wkP_refl _ rfl) ⟨⟨_, rfl, rfl, rfl, .inr ⟨⟨⟨⟨rfl, rfl, rfl⟩, ⟨rfl, rfl, (by first | rfl | simp [setI])⟩, trivial⟩, trivial⟩, ⟨rfl, trivial⟩⟩⟩, ⟨_, rfl, rfl, rfl, wkX_map (enc := U8) b_buf (fun _ => rfl)⟩, trivial⟩

/-- (*strings.Builder).copyCheck -/
noncomputable def __strings_Builder__copyCheck_s_g (b_buf : (List Int)) : (List Int) :=
  b_buf
theorem __strings_Builder__copyCheck_s_w (b_buf : (List Int)) (r : (List Int)) (h : __strings_Builder__copyCheck_s_g b_buf = r) : Holds Try.prog 92 [(.ref 1000 0 0)] [(1000, some ⟨99, 2, [(.agg [(.ref 1000 0 0), (.arr 1101 0 b_buf.length)])]⟩), (1101, some ⟨5, 1, b_buf.map U8⟩)] (.tup []) [(1000, some ⟨99, 2, [(.agg [(.ref 1000 0 0), (.arr 811 0 r.length)])]⟩), (811, some ⟨5, 1, r.map U8⟩)] := by
  unfold __strings_Builder__copyCheck_s_g at h
  refine holds_fn Try.func92 rfl Try.ntmps92 rfl rfl rfl (fun lim => ?_)
  refine awp_seq ?_
  refine awp_go hmix ?_
  refine go_run' ttok 1 rfl ?_
  refine go_step rfl (as_nilCheck rfl rfl) rfl rfl rfl ?_
  refine go_run' ttok 2 rfl ?_
  refine go_step rfl (as_refNil (.inl ⟨rfl, rfl⟩) rfl Try.underlying97 rfl rfl) rfl rfl rfl ?_
  refine go_nil nd ?_
  refine then_norm ?_
  refine awp_cond rfl (fun h => by cases h) (fun tt0 => ?_)
  clear tt0
  refine awp_seq ?_
  refine awp_go hmix ?_
  refine go_run' ttok 1 rfl ?_
  refine go_step rfl (as_nilCheck rfl rfl) rfl rfl rfl ?_
  refine go_run' ttok 3 rfl ?_
  refine go_step rfl (as_refSame (.inr ⟨rfl, rfl⟩) rfl Try.underlying97 ty99_ok rfl rfl) rfl rfl rfl ?_
  refine go_nil nd ?_
  refine then_norm ?_
  refine awp_cond rfl (fun h => by cases h) (fun tt0 => ?_)
  clear tt0
  refine awp_skip ?_
  have e1 := h
  subst e1
  refine ret_norm ?_
  exact finB [(1000, some 1000), (811, some 1101)] ttok rfl rfl rfl rfl (wkP_refl _ rfl) ⟨⟨_, rfl, rfl, rfl, .inr ⟨⟨⟨⟨rfl, rfl, rfl⟩, ⟨rfl, rfl, (by first | rfl | simp [setI])⟩, trivial⟩, trivial⟩, ⟨rfl, trivial⟩⟩⟩, ⟨_, rfl, rfl, rfl, wkX_map (enc := U8) b_buf (fun _ => rfl)⟩, trivial⟩

/-- (*strings.Builder).WriteString -/
noncomputable def __strings_Builder__WriteString_n_g (b_buf : (List Int)) (s : ByteArray) : Option (Int × (List Int)) :=
  (letB (__strings_Builder__copyCheck_n_g b_buf) (fun cv => (Option.bind (appO 1 cv (sbytes s)) (fun l => some (((s.size : Nat) : Int), l)))))
theorem __strings_Builder__WriteString_n_w (b_buf : (List Int)) (s : ByteArray) (r : (Int × (List Int))) (h : __strings_Builder__WriteString_n_g b_buf s = some r) : Holds Try.prog 71 [(.ref 1000 0 0), (S s)] [(1000, some ⟨99, 2, [(.agg [(.sc (.pointer none)), (.arr 1101 0 b_buf.length)])]⟩), (1101, some ⟨5, 1, b_buf.map U8⟩)] (.tup [(I r.1), (.sc .nilIface)]) [(1000, some ⟨99, 2, [(.agg [(.ref 1000 0 0), (.arr 811 0 r.2.length)])]⟩), (811, some ⟨5, 1, r.2.map U8⟩)] := by
  unfold __strings_Builder__WriteString_n_g at h
  refine holds_fn Try.func71 rfl Try.ntmps71 rfl rfl rfl (fun lim => ?_)
  refine awp_seq ?_
  refine awp_go hmix ?_
  refine go_run' ttok 2 rfl ?_
  refine go_nil nd ?_
  refine then_norm ?_
  refine awp_seq ?_
  refine awp_go hmix ?_
  refine go_run' ttok 1 rfl ?_
  obtain ⟨cv, hv1, h⟩ := of_let h
  refine go_callM (.tup []) [] [(1000, some ⟨99, 2, [(.agg [(.ref 1000 0 0), (.arr 600 0 cv.length)])]⟩), (600, some ⟨5, 1, cv.map U8⟩)] [(1000, some 1000), (1101, some 1101)] [(1000, some 1000), (600, some 811)] fn92 (__strings_Builder__copyCheck_n_w b_buf cv hv1) rfl rfl rfl rfl rfl trivial ⟨⟨rfl, rfl, rfl⟩, trivial⟩ rfl rfl ⟨⟨_, rfl, rfl, rfl, .inr ⟨⟨⟨wkP_id _ rfl, ⟨rfl, rfl, (by first | rfl | simp [setI])⟩, trivial⟩, trivial⟩, ⟨rfl, trivial⟩⟩⟩, ⟨_, rfl, rfl, rfl, wkX_map (enc := U8) b_buf (fun _ => rfl)⟩, trivial⟩ rfl rfl ⟨⟨_, rfl, rfl, rfl, .inr ⟨⟨⟨⟨rfl, rfl, rfl⟩, ⟨rfl, rfl, (by first | rfl | simp [setI])⟩, trivial⟩, trivial⟩, ⟨rfl, trivial⟩⟩⟩, ⟨_, rfl, rfl, rfl, wkX_map (enc := U8) cv (fun _ => rfl)⟩, trivial⟩ (wkP_refl _ rfl) rfl (fun h => absurd rfl h) rfl rfl rfl ?_
  refine go_nil nd ?_
  refine then_norm ?_
  refine awp_seq ?_
  refine awp_go hmix ?_
  refine go_run' ttok 2 rfl ?_
  refine go_step rfl (as_nilCheck rfl rfl) rfl rfl rfl ?_
  refine go_run' ttok 3 rfl ?_
  obtain ⟨l, hv2, h⟩ := of_obind h
  refine go_appStr cv l s hv2 (by first | rfl | simp [setI]) ttok rfl rfl rfl rfl rfl rfl rfl rfl rfl rfl rfl rfl rfl rfl rfl rfl rfl ?_
  refine go_step rfl (as_nilCheck rfl rfl) rfl rfl rfl ?_
  refine go_run' ttok 2 rfl ?_
  refine go_nil nd ?_
  refine then_norm ?_
  refine awp_seq ?_
  refine awp_go hmix ?_
  refine go_run' ttok 4 rfl ?_
  refine go_nil nd ?_
  refine then_norm ?_
  refine awp_ret ?_
  have e3 := of_some h
  subst e3
  refine ret_ret ?_
  exact finB [(1000, some 1000), (811, some 14)] ttok rfl rfl rfl rfl (wkP_refl _ rfl) ⟨⟨_, rfl, rfl, rfl, .inr ⟨⟨⟨⟨rfl, rfl, rfl⟩, ⟨rfl, rfl, (by first | rfl | simp [setI])⟩, trivial⟩, trivial⟩, ⟨rfl, trivial⟩⟩⟩, ⟨_, rfl, rfl, rfl, wkX_map (enc := U8) l (fun _ => rfl)⟩, trivial⟩
noncomputable def __strings_Builder__WriteString_n_c (N : Nat) (b_buf : (List Int)) (s : ByteArray) : Option (Int × (List Int)) :=
  (letB (__strings_Builder__copyCheck_n_g b_buf) (fun cv => (Option.bind (appO 1 cv (sbytes s)) (fun l => some (((s.size : Nat) : Int), l)))))
theorem __strings_Builder__WriteString_n_le (N : Nat) (b_buf : (List Int)) (s : ByteArray) : OLe (__strings_Builder__WriteString_n_c N b_buf s) (__strings_Builder__WriteString_n_g b_buf s) := by
  unfold __strings_Builder__WriteString_n_c __strings_Builder__WriteString_n_g
  repeat' (first | exact ole_rfl | refine ole_bif ?_ ?_ | refine ole_bind ?_ (fun _ => ?_) | refine ole_let (fun _ => ?_) | refine ole_map ?_ | refine ole_elim (fun _ => ?_) (fun _ => ?_) | refine ole_loop (fun _ => ?_))

/-- (*strings.Builder).WriteString -/
noncomputable def __strings_Builder__WriteString_s_g (b_buf : (List Int)) (s : ByteArray) : Option (Int × (List Int)) :=
  (letB (__strings_Builder__copyCheck_s_g b_buf) (fun cv => (Option.bind (appO 1 cv (sbytes s)) (fun l => some (((s.size : Nat) : Int), l)))))
theorem __strings_Builder__WriteString_s_w (b_buf : (List Int)) (s : ByteArray) (r : (Int × (List Int))) (h : __strings_Builder__WriteString_s_g b_buf s = some r) : Holds Try.prog 71 [(.ref 1000 0 0), (S s)] [(1000, some ⟨99, 2, [(.agg [(.ref 1000 0 0), (.arr 1101 0 b_buf.length)])]⟩), (1101, some ⟨5, 1, b_buf.map U8⟩)] (.tup [(I r.1), (.sc .nilIface)]) [(1000, some ⟨99, 2, [(.agg [(.ref 1000 0 0), (.arr 811 0 r.2.length)])]⟩), (811, some ⟨5, 1, r.2.map U8⟩)] := by
  unfold __strings_Builder__WriteString_s_g at h
  refine holds_fn Try.func71 rfl Try.ntmps71 rfl rfl rfl (fun lim => ?_)
  refine awp_seq ?_
  refine awp_go hmix ?_
  refine go_run' ttok 2 rfl ?_
  refine go_nil nd ?_
  refine then_norm ?_
  refine awp_seq ?_
  refine awp_go hmix ?_
  refine go_run' ttok 1 rfl ?_
  obtain ⟨cv, hv1, h⟩ := of_let h
  refine go_callM (.tup []) [] [(1000, some ⟨99, 2, [(.agg [(.ref 1000 0 0), (.arr 600 0 cv.length)])]⟩), (600, some ⟨5, 1, cv.map U8⟩)] [(1000, some 1000), (1101, some 1101)] [(1000, some 1000), (600, some 811)] fn92 (__strings_Builder__copyCheck_s_w b_buf cv hv1) rfl rfl rfl rfl rfl trivial ⟨⟨rfl, rfl, rfl⟩, trivial⟩ rfl rfl ⟨⟨_, rfl, rfl, rfl, .inr ⟨⟨⟨⟨rfl, rfl, rfl⟩, ⟨rfl, rfl, (by first | rfl | simp [setI])⟩, trivial⟩, trivial⟩, ⟨rfl, trivial⟩⟩⟩, ⟨_, rfl, rfl, rfl, wkX_map (enc := U8) b_buf (fun _ => rfl)⟩, trivial⟩ rfl rfl ⟨⟨_, rfl, rfl, rfl, .inr ⟨⟨⟨⟨rfl, rfl, rfl⟩, ⟨rfl, rfl, (by first | rfl | simp [setI])⟩, trivial⟩, trivial⟩, ⟨rfl, trivial⟩⟩⟩, ⟨_, rfl, rfl, rfl, wkX_map (enc := U8) cv (fun _ => rfl)⟩, trivial⟩ (wkP_refl _ rfl) rfl (fun h => absurd rfl h) rfl rfl rfl ?_
  refine go_nil nd ?_
  refine then_norm ?_
  refine awp_seq ?_
  refine awp_go hmix ?_
  refine go_run' ttok 2 rfl ?_
  refine go_step rfl (as_nilCheck rfl rfl) rfl rfl rfl ?_
  refine go_run' ttok 3 rfl ?_
  obtain ⟨l, hv2, h⟩ := of_obind h
  refine go_appStr cv l s hv2 (by first | rfl | simp [setI]) ttok rfl rfl rfl rfl rfl rfl rfl rfl rfl rfl rfl rfl rfl rfl rfl rfl rfl ?_
  refine go_step rfl (as_nilCheck rfl rfl) rfl rfl rfl ?_
  refine go_run' ttok 2 rfl ?_
  refine go_nil nd ?_
  refine then_norm ?_
  refine awp_seq ?_
  refine awp_go hmix ?_
  refine go_run' ttok 4 rfl ?_
  refine go_nil nd ?_
  refine then_norm ?_
  refine awp_ret ?_
  have e3 := of_some h
  subst e3
  refine ret_ret ?_
  exact finB [(1000, some 1000), (811, some 14)] ttok rfl rfl rfl rfl (wkP_refl _ rfl) ⟨⟨_, rfl, rfl, rfl, .inr ⟨⟨⟨⟨rfl, rfl, rfl⟩, ⟨rfl, rfl, (by first | rfl | simp [setI])⟩, trivial⟩, trivial⟩, ⟨rfl, trivial⟩⟩⟩, ⟨_, rfl, rfl, rfl, wkX_map (enc := U8) l (fun _ => rfl)⟩, trivial⟩
noncomputable def __strings_Builder__WriteString_s_c (N : Nat) (b_buf : (List Int)) (s : ByteArray) : Option (Int × (List Int)) :=
  (letB (__strings_Builder__copyCheck_s_g b_buf) (fun cv => (Option.bind (appO 1 cv (sbytes s)) (fun l => some (((s.size : Nat) : Int), l)))))
theorem __strings_Builder__WriteString_s_le (N : Nat) (b_buf : (List Int)) (s : ByteArray) : OLe (__strings_Builder__WriteString_s_c N b_buf s) (__strings_Builder__WriteString_s_g b_buf s) := by
  unfold __strings_Builder__WriteString_s_c __strings_Builder__WriteString_s_g
  repeat' (first | exact ole_rfl | refine ole_bif ?_ ?_ | refine ole_bind ?_ (fun _ => ?_) | refine ole_let (fun _ => ?_) | refine ole_map ?_ | refine ole_elim (fun _ => ?_) (fun _ => ?_) | refine ole_loop (fun _ => ?_))

/-- sawmill/wire.Int -/
noncomputable def wire_Int_g (n : Int) : Option ByteArray :=
  (bif (decide (n < 0)) then (Option.bind (wire_Uint_g (bOr .u64 (bShl .u64 (bNot .u64 (WU64 n)) 1) 1)) (fun uv => some uv)) else (Option.bind (wire_Uint_g (bShl .u64 (WU64 n) 1)) (fun uv1 => some uv1)))
theorem wire_Int_w (n : Int) (r : ByteArray) (h : wire_Int_g n = some r) : Holds Try.prog 72 [(I n)] [] (S r) [] := by
  unfold wire_Int_g at h
  refine holds_fn Try.func72 rfl Try.ntmps72 rfl rfl rfl (fun lim => ?_)
  refine awp_seq ?_
  refine awp_go hmix ?_
  refine go_run' ttok 1 rfl ?_
  refine go_nil nd ?_
  refine then_norm ?_
  refine awp_seq ?_
  refine awp_seq ?_
  refine awp_go hmix ?_
  refine go_run' ttok 2 rfl ?_
  refine go_nil nd ?_
  refine then_norm ?_
  refine awp_cond (b := (decide (n < 0))) rfl (fun c1 => ?_) (fun c1 => ?_)
  · replace h := of_bif_t h c1
    refine awp_seq ?_
    refine awp_go hmix ?_
    refine go_run' ttok 5 rfl ?_
    obtain ⟨uv, hv2, h⟩ := of_obind h
    refine go_call fn70 (wire_Uint_w (bOr .u64 (bShl .u64 (bNot .u64 (WU64 n)) 1) 1) uv hv2) rfl rfl rfl rfl rfl rfl rfl ?_
    refine go_run' ttok 1 rfl ?_
    refine go_nil nd ?_
    refine then_norm ?_
    refine awp_ret ?_
    refine then_ret ?_
    have e3 := of_some h
    subst e3
    refine ret_ret ?_
    refine fin0 ttok rfl rfl ?_
    exact (wkP_refl _ rfl)
  · replace h := of_bif_f h c1
    refine awp_skip ?_
    refine then_norm ?_
    refine awp_seq ?_
    refine awp_go hmix ?_
    refine go_run' ttok 3 rfl ?_
    obtain ⟨uv1, hv4, h⟩ := of_obind h
    refine go_call fn70 (wire_Uint_w (bShl .u64 (WU64 n) 1) uv1 hv4) rfl rfl rfl rfl rfl rfl rfl ?_
    refine go_run' ttok 1 rfl ?_
    refine go_nil nd ?_
    refine then_norm ?_
    refine awp_ret ?_
    have e5 := of_some h
    subst e5
    refine ret_ret ?_
    refine fin0 ttok rfl rfl ?_
    exact (wkP_refl _ rfl)
noncomputable def wire_Int_c (N : Nat) (n : Int) : Option ByteArray :=
  (bif (decide (n < 0)) then (Option.bind ((wire_Uint_c N) (bOr .u64 (bShl .u64 (bNot .u64 (WU64 n)) 1) 1)) (fun uv => some uv)) else (Option.bind ((wire_Uint_c N) (bShl .u64 (WU64 n) 1)) (fun uv1 => some uv1)))
theorem wire_Int_le (N : Nat) (n : Int) : OLe (wire_Int_c N n) (wire_Int_g n) := by
  unfold wire_Int_c wire_Int_g
  repeat' (first | exact ole_rfl | exact wire_Uint_le _ _ | refine ole_bif ?_ ?_ | refine ole_bind ?_ (fun _ => ?_) | refine ole_let (fun _ => ?_) | refine ole_map ?_ | refine ole_elim (fun _ => ?_) (fun _ => ?_) | refine ole_loop (fun _ => ?_))

/-- (*strings.Builder).String -/
noncomputable def __strings_Builder__String_s_g (b_buf : (List Int)) : Option ByteArray :=
  (bif (b_buf.length != 0) then (bif (Nat.ble b_buf.length 9223372036854775807) then (Option.bind (strO b_buf) (fun t => some t)) else none) else none)
theorem __strings_Builder__String_s_w (b_buf : (List Int)) (r : ByteArray) (h : __strings_Builder__String_s_g b_buf = some r) : Holds Try.prog 73 [(.ref 1000 0 0)] [(1000, some ⟨99, 2, [(.agg [(.ref 1000 0 0), (.arr 1101 0 b_buf.length)])]⟩), (1101, some ⟨5, 1, b_buf.map U8⟩)] (S r) [] := by
  unfold __strings_Builder__String_s_g at h
  refine holds_fn Try.func73 rfl Try.ntmps73 rfl rfl rfl (fun lim => ?_)
  refine awp_seq ?_
  refine awp_go hmix ?_
  refine go_run' ttok 1 rfl ?_
  refine go_nil nd ?_
  refine then_norm ?_
  refine awp_seq ?_
  refine awp_go hmix ?_
  refine go_run' ttok 1 rfl ?_
  refine go_step rfl (as_nilCheck rfl rfl) rfl rfl rfl ?_
  refine go_run' ttok 2 rfl ?_
  obtain ⟨hd1, h⟩ := of_grd h
  refine go_step rfl (as_sliceData rfl rfl rfl (by simpa using hd1)) rfl rfl rfl ?_
  refine go_run' ttok 1 rfl ?_
  refine go_step rfl (as_nilCheck rfl rfl) rfl rfl rfl ?_
  refine go_run' ttok 3 rfl ?_
  obtain ⟨hd2, h⟩ := of_grd h
  obtain ⟨t, hv3, h⟩ := of_obind h
  refine go_step rfl (as_unsafeString (n := b_buf.length) (ns := b_buf) rfl Try.underlying124 ty5_ok (by kernel_rfl) rfl rfl rfl rfl rfl rfl rfl hv3 (Nat.le_of_ble_eq_true hd2)) rfl rfl rfl ?_
  refine go_run' ttok 1 rfl ?_
  refine go_nil (fun _ => by kernel_rfl) ?_
  refine then_norm ?_
  refine awp_ret ?_
  have e4 := of_some h
  subst e4
  refine ret_ret ?_
  exact finB [] ttok rfl rfl rfl rfl (wkP_refl _ rfl) trivial
noncomputable def __strings_Builder__String_s_c (N : Nat) (b_buf : (List Int)) : Option ByteArray :=
  (bif (b_buf.length != 0) then (bif (Nat.ble b_buf.length 9223372036854775807) then (Option.bind (strO b_buf) (fun t => some t)) else none) else none)
theorem __strings_Builder__String_s_le (N : Nat) (b_buf : (List Int)) : OLe (__strings_Builder__String_s_c N b_buf) (__strings_Builder__String_s_g b_buf) := by
  unfold __strings_Builder__String_s_c __strings_Builder__String_s_g
  repeat' (first | exact ole_rfl | refine ole_bif ?_ ?_ | refine ole_bind ?_ (fun _ => ?_) | refine ole_let (fun _ => ?_) | refine ole_map ?_ | refine ole_elim (fun _ => ?_) (fun _ => ?_) | refine ole_loop (fun _ => ?_))

noncomputable def wire_Ints_s1 (l : (List Int)) (vv : Int) (b1 : (List Int)) : Option ((Int × (List Int)) ⊕ (List Int)) :=
  (bif (decide (vv < ((l.length : Nat) : Int))) then (Option.bind (getI l vv) (fun e => (Option.bind (wire_Int_g e) (fun iv => (Option.bind (__strings_Builder__WriteString_s_g b1 iv) (fun wv1 => some (Sum.inl ((W64 (vv + 1)), wv1.2)))))))) else some (Sum.inr b1))
/-- sawmill/wire.Ints -/
noncomputable def wire_Ints_g (l : (List Int)) : Option ByteArray :=
  (Option.bind (wire_Uint_g (WU64 ((l.length : Nat) : Int))) (fun uv => (Option.bind (__strings_Builder__WriteString_n_g [] uv) (fun wv => (Option.bind ((loopO (fun q => wire_Ints_s1 l q.1 q.2) (0, wv.2)) : Option (List Int)) (fun b => (Option.bind (__strings_Builder__String_s_g b) (fun sv => some sv))))))))
theorem wire_Ints_w (l : (List Int)) (r : ByteArray) (h : wire_Ints_g l = some r) : Holds Try.prog 42 [((encL I) l)] [] (S r) [] := by
  unfold wire_Ints_g at h
  refine holds_fn Try.func42 rfl Try.ntmps42 rfl rfl rfl (fun lim => ?_)
  refine awp_seq ?_
  refine awp_go hmix ?_
  refine go_run' ttok 1 rfl ?_
  refine go_nil nd ?_
  refine then_norm ?_
  refine awp_seq ?_
  refine awp_go hmix ?_
  refine go_run' ttok 1 rfl ?_
  refine go_nil nd ?_
  refine then_norm ?_
  refine awp_seq ?_
  refine awp_go hmix ?_
  refine go_run' ttok 1 rfl ?_
  refine go_lenT I l ttok rfl rfl rfl rfl rfl rfl ?_
  refine go_run' ttok 1 rfl ?_
  obtain ⟨uv, hv1, h⟩ := of_obind h
  refine go_call fn70 (wire_Uint_w (WU64 ((l.length : Nat) : Int)) uv hv1) rfl rfl rfl rfl rfl rfl rfl ?_
  obtain ⟨wv, hv2, h⟩ := of_obind h
  refine go_callM (.tup [(I wv.1), (.sc .nilIface)]) [] [(3, some ⟨99, 2, [(.agg [(.ref 3 0 0), (.arr 600 0 wv.2.length)])]⟩), (600, some ⟨5, 1, wv.2.map U8⟩)] [(1000, some 3), (1101, none)] [(3, some 1000), (600, some 811)] fn71 (__strings_Builder__WriteString_n_w [] uv wv hv2) rfl rfl rfl rfl rfl trivial ⟨⟨rfl, rfl, rfl⟩, (wkP_refl _ rfl), trivial⟩ rfl rfl ⟨⟨_, rfl, rfl, rfl, .inr ⟨⟨⟨wkP_id _ rfl, ⟨rfl, rfl, (by first | rfl | simp [setI])⟩, trivial⟩, trivial⟩, ⟨rfl, trivial⟩⟩⟩, rfl, trivial⟩ rfl rfl ⟨⟨_, rfl, rfl, rfl, .inr ⟨⟨⟨⟨rfl, rfl, rfl⟩, ⟨rfl, rfl, (by first | rfl | simp [setI])⟩, trivial⟩, trivial⟩, ⟨rfl, trivial⟩⟩⟩, ⟨_, rfl, rfl, rfl, wkX_map (enc := U8) wv.2 (fun _ => rfl)⟩, trivial⟩ (wkP_refl _ rfl) rfl (fun h => absurd rfl h) rfl rfl rfl ?_
  refine go_nil nd ?_
  refine then_norm ?_
  obtain ⟨y, hx3, h⟩ := of_obind h
  refine awp_seqJ (X := (List Int)) [3] [] (fun w => []) (fun w => [(600, some ⟨5, 1, w.map U8⟩), (3, some ⟨99, 2, [(.agg [(.ref 3 0 0), (.arr 600 0 w.length)])]⟩)]) (fun w => w = y) rfl rfl ?_ ?_
  · skip
    refine awp_seq ?_
    refine awp_go hmix ?_
    refine go_run' ttok 1 rfl ?_
    refine go_lenT I l ttok rfl rfl rfl rfl rfl rfl ?_
    refine go_run' ttok 1 rfl ?_
    refine go_nil nd ?_
    refine then_norm ?_
    refine awp_block ?_
    refine awp_loopD (X := (Int × (List Int))) (Y := (List Int)) [3, 11, 12] [] (fun q => [(13, (I q.1))]) (fun q => [(600, some ⟨5, 1, q.2.map U8⟩), (3, some ⟨99, 2, [(.agg [(.ref 3 0 0), (.arr 600 0 q.2.length)])]⟩)]) (fun q => wire_Ints_s1 l q.1 q.2) (0, wv.2) [(600, some 600), (3, some 3)] hx3 ⟨rfl, rfl, rfl, rfl, rfl, ⟨wkP_id _ rfl, trivial⟩, ⟨⟨_, rfl, rfl, rfl, wkX_map (enc := U8) wv.2 (fun _ => rfl)⟩, ⟨_, rfl, rfl, rfl, .inr ⟨⟨⟨wkP_id _ rfl, ⟨rfl, rfl, (by first | rfl | simp [setI])⟩, trivial⟩, trivial⟩, ⟨rfl, trivial⟩⟩⟩, trivial⟩⟩ (fun x vR vz hz5 hk6 => ?_)
    obtain ⟨vv, b1⟩ := x
    change wire_Ints_s1 l vv b1 = _ at hz5
    unfold wire_Ints_s1 at hz5
    refine awp_seq ?_
    refine awp_go hmix ?_
    refine go_run' ttok 1 rfl ?_
    refine go_nil nd ?_
    refine then_norm ?_
    refine awp_seq ?_
    refine awp_cond (b := (decide (vv < ((l.length : Nat) : Int)))) rfl (fun c7 => ?_) (fun c7 => ?_)
    · replace hz5 := of_bif_t hz5 c7
      refine awp_skip ?_
      refine then_norm ?_
      refine awp_seq ?_
      refine awp_block ?_
      refine awp_seq ?_
      refine awp_go hmix ?_
      obtain ⟨e, hv8, hz5⟩ := of_obind hz5
      refine go_indexT I l vv e hv8 ttok rfl rfl rfl rfl rfl rfl rfl rfl rfl ?_
      refine go_run' ttok 2 rfl ?_
      refine go_nil nd ?_
      refine then_norm ?_
      refine awp_go hmix ?_
      refine go_run' ttok 1 rfl ?_
      obtain ⟨iv, hv9, hz5⟩ := of_obind hz5
      refine go_call fn72 (wire_Int_w e iv hv9) rfl rfl rfl rfl rfl rfl rfl ?_
      obtain ⟨wv1, hv10, hz5⟩ := of_obind hz5
      refine go_callM (.tup [(I wv1.1), (.sc .nilIface)]) [] [(3, some ⟨99, 2, [(.agg [(.ref 3 0 0), (.arr 601 0 wv1.2.length)])]⟩), (601, some ⟨5, 1, wv1.2.map U8⟩)] [(1000, some 3), (1101, some 600)] [(3, some 1000), (601, some 811)] fn71 (__strings_Builder__WriteString_s_w b1 iv wv1 hv10) rfl rfl rfl rfl rfl trivial ⟨⟨rfl, rfl, rfl⟩, (wkP_refl _ rfl), trivial⟩ rfl rfl ⟨⟨_, rfl, rfl, rfl, .inr ⟨⟨⟨⟨rfl, rfl, rfl⟩, ⟨rfl, rfl, (by first | rfl | simp [setI])⟩, trivial⟩, trivial⟩, ⟨rfl, trivial⟩⟩⟩, ⟨_, rfl, rfl, rfl, wkX_map (enc := U8) b1 (fun _ => rfl)⟩, trivial⟩ rfl rfl ⟨⟨_, rfl, rfl, rfl, .inr ⟨⟨⟨⟨rfl, rfl, rfl⟩, ⟨rfl, rfl, (by first | rfl | simp [setI])⟩, trivial⟩, trivial⟩, ⟨rfl, trivial⟩⟩⟩, ⟨_, rfl, rfl, rfl, wkX_map (enc := U8) wv1.2 (fun _ => rfl)⟩, trivial⟩ (wkP_refl _ rfl) rfl (fun h => absurd rfl h) rfl rfl rfl ?_
      refine go_nil nd ?_
      refine block_norm ?_
      refine then_norm ?_
      refine awp_go hmix ?_
      refine go_run' ttok 2 rfl ?_
      refine go_nil nd ?_
      have e11 := of_some hz5
      subst e11
      refine then_norm ⟨rfl, ((W64 (vv + 1)), wv1.2), [(600, some 601), (3, some 3)], ⟨rfl, rfl, rfl, rfl, rfl, ⟨wkP_id _ rfl, trivial⟩, ⟨⟨_, rfl, rfl, rfl, wkX_map (enc := U8) wv1.2 (fun _ => rfl)⟩, ⟨_, rfl, rfl, rfl, .inr ⟨⟨⟨wkP_id _ rfl, ⟨rfl, rfl, (by first | rfl | simp [setI])⟩, trivial⟩, trivial⟩, ⟨rfl, trivial⟩⟩⟩, trivial⟩⟩, hk6⟩
    · replace hz5 := of_bif_f hz5 c7
      refine awp_exit ?_
      refine then_exit ?_
      obtain ⟨t, hn12, hq⟩ := of_mapr' hz5
      subst hq
      have hq : t = _ := hk6
      subst hq
      refine then_exit ?_
      refine block_here ?_
      have e13 := of_some hn12
      refine then_norm ⟨rfl, b1, [(600, some 600), (3, some 3)], ⟨rfl, rfl, rfl, rfl, rfl, trivial, ⟨⟨_, rfl, rfl, rfl, wkX_map (enc := U8) b1 (fun _ => rfl)⟩, ⟨_, rfl, rfl, rfl, .inr ⟨⟨⟨wkP_id _ rfl, ⟨rfl, rfl, (by first | rfl | simp [setI])⟩, trivial⟩, trivial⟩, ⟨rfl, trivial⟩⟩⟩, trivial⟩⟩, e13⟩
  · intro b hw4
    subst hw4
    refine awp_seq ?_
    refine awp_go hmix ?_
    obtain ⟨sv, hv14, h⟩ := of_obind h
    refine go_callM (S sv) [] [] [(1000, some 3), (1101, some 600)] [] fn73 (__strings_Builder__String_s_w b sv hv14) rfl rfl rfl rfl rfl trivial ⟨⟨rfl, rfl, rfl⟩, trivial⟩ rfl rfl ⟨⟨_, rfl, rfl, rfl, .inr ⟨⟨⟨⟨rfl, rfl, rfl⟩, ⟨rfl, rfl, (by first | rfl | simp [setI])⟩, trivial⟩, trivial⟩, ⟨rfl, trivial⟩⟩⟩, ⟨_, rfl, rfl, rfl, wkX_map (enc := U8) b (fun _ => rfl)⟩, trivial⟩ rfl rfl trivial (wkP_refl _ rfl) rfl (fun h => absurd rfl h) rfl rfl rfl ?_
    refine go_run' ttok 1 rfl ?_
    refine go_nil nd ?_
    refine then_norm ?_
    refine awp_ret ?_
    have e15 := of_some h
    subst e15
    refine ret_ret ?_
    refine fin0 ttok rfl rfl ?_
    exact (wkP_refl _ rfl)
noncomputable def wire_Ints_cs1 (N : Nat) (l : (List Int)) (vv : Int) (b1 : (List Int)) : Option ((Int × (List Int)) ⊕ (List Int)) :=
  (bif (decide (vv < ((l.length : Nat) : Int))) then (Option.bind (getI l vv) (fun e => (Option.bind ((wire_Int_c N) e) (fun iv => (Option.bind ((__strings_Builder__WriteString_s_c N) b1 iv) (fun wv1 => some (Sum.inl ((W64 (vv + 1)), wv1.2)))))))) else some (Sum.inr b1))
theorem wire_Ints_cs1_le (N : Nat) (l : (List Int)) (vv : Int) (b1 : (List Int)) : OLe (wire_Ints_cs1 N l vv b1) (wire_Ints_s1 l vv b1) := by
  unfold wire_Ints_cs1 wire_Ints_s1
  repeat' (first | exact ole_rfl | exact wire_Uint_le _ _ | exact __strings_Builder__WriteString_n_le _ _ _ | exact __strings_Builder__String_s_le _ _ | exact wire_Int_le _ _ | exact __strings_Builder__WriteString_s_le _ _ _ | refine ole_bif ?_ ?_ | refine ole_bind ?_ (fun _ => ?_) | refine ole_let (fun _ => ?_) | refine ole_map ?_ | refine ole_elim (fun _ => ?_) (fun _ => ?_) | refine ole_loop (fun _ => ?_))
noncomputable def wire_Ints_c (N : Nat) (l : (List Int)) : Option ByteArray :=
  (Option.bind ((wire_Uint_c N) (WU64 ((l.length : Nat) : Int))) (fun uv => (Option.bind ((__strings_Builder__WriteString_n_c N) [] uv) (fun wv => (Option.bind ((iterX N (fun q => wire_Ints_cs1 N l q.1 q.2) (0, wv.2)) : Option (List Int)) (fun b => (Option.bind ((__strings_Builder__String_s_c N) b) (fun sv => some sv))))))))
theorem wire_Ints_le (N : Nat) (l : (List Int)) : OLe (wire_Ints_c N l) (wire_Ints_g l) := by
  unfold wire_Ints_c wire_Ints_g
  repeat' (first | exact ole_rfl | exact wire_Uint_le _ _ | exact __strings_Builder__WriteString_n_le _ _ _ | exact __strings_Builder__String_s_le _ _ | exact wire_Int_le _ _ | exact __strings_Builder__WriteString_s_le _ _ _ | exact wire_Ints_cs1_le _ _ _ _ | refine ole_bif ?_ ?_ | refine ole_bind ?_ (fun _ => ?_) | refine ole_let (fun _ => ?_) | refine ole_map ?_ | refine ole_elim (fun _ => ?_) (fun _ => ?_) | refine ole_loop (fun _ => ?_))

noncomputable def order_Encode_s1 (o : TOrder) (vv : Int) : Option (Int ⊕ ((ByteArray × Int) ⊕ Unit)) :=
  (bif (decide (vv < ((9 : Nat) : Int))) then (Option.bind (getI ([o.Product, o.Length, o.Grade, o.Moist, o.Want, o.Minus, o.Plus, o.Price, o.Due]) vv) (fun e => (bif (decide (e < (-1099511627776))) then some (Sum.inr (Sum.inl ((⟨#[]⟩ : ByteArray), 9))) else (bif (decide (1099511627776 < e)) then some (Sum.inr (Sum.inl ((⟨#[]⟩ : ByteArray), 9))) else some (Sum.inl (W64 (vv + 1))))))) else some (Sum.inr (Sum.inr ())))
/-- sawmill/order.Encode -/
noncomputable def order_Encode_g (o : TOrder) : Option (ByteArray × Int) :=
  (bif (decide (16 < ((o.Id.size : Nat) : Int))) then some ((⟨#[]⟩ : ByteArray), 6) else (bif (decide (16 < ((o.Species.size : Nat) : Int))) then some ((⟨#[]⟩ : ByteArray), 6) else (Option.bind ((loopO (fun q => order_Encode_s1 o q) 0) : Option ((ByteArray × Int) ⊕ Unit)) (Sum.elim (fun q => some q) (fun _ => (Option.bind (wire_Text_g o.Id) (fun tv => (Option.bind (wire_Text_g o.Species) (fun tv1 => (Option.bind (catO tv tv1) (fun t5 => (Option.bind (wire_Ints_g ([o.Product, o.Length, o.Grade, o.Moist, o.Want, o.Minus, o.Plus, o.Price, o.Due])) (fun iv => (Option.bind (catO t5 iv) (fun t6 => some (t6, 0))))))))))))))))
theorem order_Encode_w (o : TOrder) (r : (ByteArray × Int)) (h : order_Encode_g o = some r) : Holds Try.prog 22 [(encTOrder o)] [] (.tup [(S r.1), (I r.2)]) [] := by
  unfold order_Encode_g at h
  refine holds_fn Try.func22 rfl Try.ntmps22 rfl rfl rfl (fun lim => ?_)
  refine awp_seq ?_
  refine awp_go hmix ?_
  refine go_run' ttok 3 rfl ?_
  refine go_nil nd ?_
  refine then_norm ?_
  refine awp_seq ?_
  refine awp_seq ?_
  refine awp_go hmix ?_
  refine go_run' ttok 5 rfl ?_
  refine go_gcase rfl rfl rfl (fun g1 => ?_) (fun g1 => ?_)
  · rw [g1]
    replace h := of_bif_t h g1
    refine go_run' ttok 5 rfl ?_
    refine go_nil nd ?_
    refine then_norm ?_
    refine awp_cond rfl (fun tt0 => ?_) (fun h => by cases h)
    clear tt0
    refine awp_seq ?_
    refine awp_go hmix ?_
    refine go_run' ttok 2 rfl ?_
    refine go_nil nd ?_
    refine then_norm ?_
    refine awp_ret ?_
    refine then_ret ?_
    have e2 := of_some h
    subst e2
    refine ret_ret ?_
    refine fin0 ttok rfl rfl ?_
    exact wkP_refl _ rfl
  · rw [g1]
    replace h := of_bif_f h g1
    refine go_run' ttok 5 rfl ?_
    refine go_nil nd ?_
    refine then_norm ?_
    refine awp_cond (b := (decide (16 < ((o.Species.size : Nat) : Int)))) rfl (fun c3 => ?_) (fun c3 => ?_)
    · replace h := of_bif_t h c3
      refine awp_seq ?_
      refine awp_go hmix ?_
      refine go_run' ttok 2 rfl ?_
      refine go_nil nd ?_
      refine then_norm ?_
      refine awp_ret ?_
      refine then_ret ?_
      have e4 := of_some h
      subst e4
      refine ret_ret ?_
      refine fin0 ttok rfl rfl ?_
      exact wkP_refl _ rfl
    · replace h := of_bif_f h c3
      refine awp_skip ?_
      refine then_norm ?_
      refine awp_seq ?_
      refine awp_go hmix ?_
      refine go_run' ttok 20 rfl ?_
      refine go_nil nd ?_
      refine then_norm ?_
      obtain ⟨y, hx5, h⟩ := of_obind h
      refine awp_seqJ (X := Unit) [1] [1] (fun _ => [(4, (.arr 35 0 9))]) (fun _ => [(35, some ⟨3, 1, ([o.Product, o.Length, o.Grade, o.Moist, o.Want, o.Minus, o.Plus, o.Price, o.Due]).map I⟩)]) (fun w => Sum.inr w = y) rfl rfl ?_ ?_
      · skip
        refine awp_seq ?_
        refine awp_go hmix ?_
        refine go_run' ttok 3 rfl ?_
        refine go_nil nd ?_
        refine then_norm ?_
        refine awp_block ?_
        refine awp_loopD (X := Int) (Y := ((ByteArray × Int) ⊕ Unit)) [1, 37] [1] (fun q => [(38, (I q)), (4, (.arr 35 0 9)), (36, (.arr 35 0 ([o.Product, o.Length, o.Grade, o.Moist, o.Want, o.Minus, o.Plus, o.Price, o.Due].length)))]) (fun q => [(35, some ⟨3, 1, ([o.Product, o.Length, o.Grade, o.Moist, o.Want, o.Minus, o.Plus, o.Price, o.Due]).map I⟩)]) (fun q => order_Encode_s1 o q) 0 [(35, some 35), (1, some 1)] hx5 ⟨rfl, rfl, rfl, rfl, rfl, ⟨wkP_id _ rfl, ⟨rfl, rfl, (by first | rfl | simp [setI])⟩, ⟨rfl, rfl, (by first | rfl | simp [setI])⟩, trivial⟩, ⟨⟨_, rfl, rfl, rfl, wkX_map (enc := I) ([o.Product, o.Length, o.Grade, o.Moist, o.Want, o.Minus, o.Plus, o.Price, o.Due]) (fun _ => rfl)⟩, trivial⟩⟩ (fun vv vR vz hz7 hk8 => ?_)
        change order_Encode_s1 o vv = _ at hz7
        unfold order_Encode_s1 at hz7
        refine awp_seq ?_
        refine awp_go hmix ?_
        refine go_run' ttok 1 rfl ?_
        refine go_nil nd ?_
        refine then_norm ?_
        refine awp_seq ?_
        refine awp_cond (b := (decide (vv < ((9 : Nat) : Int)))) rfl (fun c9 => ?_) (fun c9 => ?_)
        · replace hz7 := of_bif_t hz7 c9
          refine awp_skip ?_
          refine then_norm ?_
          refine awp_seq ?_
          refine awp_block ?_
          refine awp_seq ?_
          refine awp_go hmix ?_
          obtain ⟨e, hv10, hz7⟩ := of_obind hz7
          refine go_indexAT I ([o.Product, o.Length, o.Grade, o.Moist, o.Want, o.Minus, o.Plus, o.Price, o.Due]) vv e hv10 (by first | rfl | simp [setI]) ttok rfl rfl rfl rfl rfl rfl rfl rfl rfl rfl ?_
          refine go_loadT I ([o.Product, o.Length, o.Grade, o.Moist, o.Want, o.Minus, o.Plus, o.Price, o.Due]) vv e _ hv10 ttok rfl rfl rfl rfl rfl rfl rfl ?_
          refine go_run' ttok 1 rfl ?_
          refine go_nil nd ?_
          refine then_norm ?_
          refine awp_seq ?_
          refine awp_go hmix ?_
          refine go_run' ttok 3 rfl ?_
          refine go_gcase rfl rfl rfl (fun g11 => ?_) (fun g11 => ?_)
          · rw [g11]
            replace hz7 := of_bif_t hz7 g11
            refine go_run' ttok 3 rfl ?_
            refine go_nil nd ?_
            refine then_norm ?_
            refine awp_cond rfl (fun tt0 => ?_) (fun h => by cases h)
            clear tt0
            refine awp_seq ?_
            refine awp_go hmix ?_
            refine go_run' ttok 2 rfl ?_
            refine go_nil nd ?_
            refine then_norm ?_
            refine awp_ret ?_
            refine block_ret ?_
            refine then_ret ?_
            obtain ⟨t, hn12, hq⟩ := of_mapr' hz7
            subst hq
            have hq : t = _ := hk8
            subst hq
            refine then_ret ?_
            refine block_ret ?_
            obtain ⟨t1, hn13, hq⟩ := of_mapl' hn12
            subst hq
            have hq := of_inl h
            replace hq := of_some hq
            subst hq
            refine then_ret ?_
            have e14 := of_some hn13
            subst e14
            refine ret_ret ?_
            refine fin0 ttok rfl rfl ?_
            exact wkP_refl _ rfl
          · rw [g11]
            replace hz7 := of_bif_f hz7 g11
            refine go_run' ttok 3 rfl ?_
            refine go_nil nd ?_
            refine then_norm ?_
            refine awp_cond (b := (decide (1099511627776 < e))) rfl (fun c15 => ?_) (fun c15 => ?_)
            · replace hz7 := of_bif_t hz7 c15
              refine awp_seq ?_
              refine awp_go hmix ?_
              refine go_run' ttok 2 rfl ?_
              refine go_nil nd ?_
              refine then_norm ?_
              refine awp_ret ?_
              refine block_ret ?_
              refine then_ret ?_
              obtain ⟨t2, hn16, hq⟩ := of_mapr' hz7
              subst hq
              have hq : t2 = _ := hk8
              subst hq
              refine then_ret ?_
              refine block_ret ?_
              obtain ⟨t3, hn17, hq⟩ := of_mapl' hn16
              subst hq
              have hq := of_inl h
              replace hq := of_some hq
              subst hq
              refine then_ret ?_
              have e18 := of_some hn17
              subst e18
              refine ret_ret ?_
              refine fin0 ttok rfl rfl ?_
              exact wkP_refl _ rfl
            · replace hz7 := of_bif_f hz7 c15
              refine awp_skip ?_
              refine block_norm ?_
              refine then_norm ?_
              refine awp_go hmix ?_
              refine go_run' ttok 2 rfl ?_
              refine go_nil nd ?_
              have e19 := of_some hz7
              subst e19
              refine then_norm ⟨rfl, (W64 (vv + 1)), [(35, some 35), (1, some 1)], ⟨rfl, rfl, rfl, rfl, rfl, ⟨wkP_id _ rfl, ⟨rfl, rfl, (by first | rfl | simp [setI])⟩, ⟨rfl, rfl, (by first | rfl | simp [setI])⟩, trivial⟩, ⟨⟨_, rfl, rfl, rfl, wkX_map (enc := I) ([o.Product, o.Length, o.Grade, o.Moist, o.Want, o.Minus, o.Plus, o.Price, o.Due]) (fun _ => rfl)⟩, trivial⟩⟩, hk8⟩
        · replace hz7 := of_bif_f hz7 c9
          refine awp_exit ?_
          refine then_exit ?_
          obtain ⟨t4, hn20, hq⟩ := of_mapr' hz7
          subst hq
          have hq : t4 = _ := hk8
          subst hq
          refine then_exit ?_
          refine block_here ?_
          have e21 := of_some hn20
          refine then_norm ⟨rfl, (), [(35, some 35), (1, some 1)], ⟨rfl, rfl, rfl, rfl, rfl, ⟨⟨rfl, rfl, (by first | rfl | simp [setI])⟩, trivial⟩, ⟨⟨_, rfl, rfl, rfl, wkX_map (enc := I) ([o.Product, o.Length, o.Grade, o.Moist, o.Want, o.Minus, o.Plus, o.Price, o.Due]) (fun _ => rfl)⟩, trivial⟩⟩, e21⟩
      · intro w hw6
        subst hw6
        replace h := of_inr h
        refine awp_seq ?_
        refine awp_go hmix ?_
        refine go_run' ttok 2 rfl ?_
        obtain ⟨tv, hv22, h⟩ := of_obind h
        refine go_call fn41 (wire_Text_w o.Id tv hv22) rfl rfl rfl rfl rfl rfl rfl ?_
        refine go_run' ttok 2 rfl ?_
        obtain ⟨tv1, hv23, h⟩ := of_obind h
        refine go_call fn41 (wire_Text_w o.Species tv1 hv23) rfl rfl rfl rfl rfl rfl rfl ?_
        obtain ⟨t5, hv24, h⟩ := of_obind h
        refine go_catT tv tv1 t5 hv24 rfl rfl rfl rfl rfl ?_
        refine go_run' ttok 1 rfl ?_
        obtain ⟨iv, hv25, h⟩ := of_obind h
        refine go_callL (L := [(35, some ⟨3, 1, ([o.Product, o.Length, o.Grade, o.Moist, o.Want, o.Minus, o.Plus, o.Price, o.Due]).map I⟩)]) fn42 (wire_Ints_w ([o.Product, o.Length, o.Grade, o.Moist, o.Want, o.Minus, o.Plus, o.Price, o.Due]) iv hv25) rfl rfl rfl ⟨rfl, List.not_mem_nil, trivial⟩ ⟨(wkP_lend rfl (by first | rfl | simp [setI]) (fun _ => rfl)), trivial⟩ rfl rfl (fun _ => rfl) rfl ?_
        obtain ⟨t6, hv26, h⟩ := of_obind h
        refine go_catT t5 iv t6 hv26 rfl rfl rfl rfl rfl ?_
        refine go_run' ttok 2 rfl ?_
        refine go_nil (fun _ => by kernel_rfl) ?_
        refine then_norm ?_
        refine awp_ret ?_
        have e27 := of_some h
        subst e27
        refine ret_ret ?_
        refine fin0 ttok rfl rfl ?_
        exact wkP_refl _ rfl
noncomputable def order_Encode_cs1 (N : Nat) (o : TOrder) (vv : Int) : Option (Int ⊕ ((ByteArray × Int) ⊕ Unit)) :=
  (bif (decide (vv < ((9 : Nat) : Int))) then (Option.bind (getI ([o.Product, o.Length, o.Grade, o.Moist, o.Want, o.Minus, o.Plus, o.Price, o.Due]) vv) (fun e => (bif (decide (e < (-1099511627776))) then some (Sum.inr (Sum.inl ((⟨#[]⟩ : ByteArray), 9))) else (bif (decide (1099511627776 < e)) then some (Sum.inr (Sum.inl ((⟨#[]⟩ : ByteArray), 9))) else some (Sum.inl (W64 (vv + 1))))))) else some (Sum.inr (Sum.inr ())))
theorem order_Encode_cs1_le (N : Nat) (o : TOrder) (vv : Int) : OLe (order_Encode_cs1 N o vv) (order_Encode_s1 o vv) := by
  unfold order_Encode_cs1 order_Encode_s1
  repeat' (first | exact ole_rfl | exact wire_Text_le _ _ | exact wire_Ints_le _ _ | refine ole_bif ?_ ?_ | refine ole_bind ?_ (fun _ => ?_) | refine ole_let (fun _ => ?_) | refine ole_map ?_ | refine ole_elim (fun _ => ?_) (fun _ => ?_) | refine ole_loop (fun _ => ?_))
noncomputable def order_Encode_c (N : Nat) (o : TOrder) : Option (ByteArray × Int) :=
  (bif (decide (16 < ((o.Id.size : Nat) : Int))) then some ((⟨#[]⟩ : ByteArray), 6) else (bif (decide (16 < ((o.Species.size : Nat) : Int))) then some ((⟨#[]⟩ : ByteArray), 6) else (Option.bind ((iterX N (fun q => order_Encode_cs1 N o q) 0) : Option ((ByteArray × Int) ⊕ Unit)) (Sum.elim (fun q => some q) (fun _ => (Option.bind ((wire_Text_c N) o.Id) (fun tv => (Option.bind ((wire_Text_c N) o.Species) (fun tv1 => (Option.bind (catO tv tv1) (fun t5 => (Option.bind ((wire_Ints_c N) ([o.Product, o.Length, o.Grade, o.Moist, o.Want, o.Minus, o.Plus, o.Price, o.Due])) (fun iv => (Option.bind (catO t5 iv) (fun t6 => some (t6, 0))))))))))))))))
theorem order_Encode_le (N : Nat) (o : TOrder) : OLe (order_Encode_c N o) (order_Encode_g o) := by
  unfold order_Encode_c order_Encode_g
  repeat' (first | exact ole_rfl | exact wire_Text_le _ _ | exact wire_Ints_le _ _ | exact order_Encode_cs1_le _ _ _ | refine ole_bif ?_ ?_ | refine ole_bind ?_ (fun _ => ?_) | refine ole_let (fun _ => ?_) | refine ole_map ?_ | refine ole_elim (fun _ => ?_) (fun _ => ?_) | refine ole_loop (fun _ => ?_))

/-- sawmill/wire.NewReader -/
noncomputable def wire_NewReader_g (s : ByteArray) : Twire_Reader :=
  (⟨s, 0, 0⟩ : Twire_Reader)
theorem wire_NewReader_w (s : ByteArray) (r : Twire_Reader) (h : wire_NewReader_g s = r) : Holds Try.prog 46 [(S s)] [] (.ref 999 0 0) [(999, some ⟨106, 3, [(encTwire_Reader r)]⟩)] := by
  unfold wire_NewReader_g at h
  refine holds_fn Try.func46 rfl Try.ntmps46 rfl rfl rfl (fun lim => ?_)
  refine awp_seq ?_
  refine awp_go hmix ?_
  refine go_run' ttok 1 rfl ?_
  refine go_nil nd ?_
  refine then_norm ?_
  refine awp_seq ?_
  refine awp_go hmix ?_
  refine go_run' ttok 4 rfl ?_
  refine go_nil nd ?_
  refine then_norm ?_
  refine awp_ret ?_
  have e1 := h
  subst e1
  refine ret_ret ?_
  exact finB [(999, some 5)] ttok rfl rfl rfl rfl ⟨rfl, rfl, rfl⟩ ⟨⟨_, rfl, rfl, rfl, .inl ⟨rfl, nr_one rfl⟩⟩, trivial⟩

/-- (*sawmill/wire.Reader).stopped -/
noncomputable def wire_Reader__stopped_g (vr : Twire_Reader) : Bool :=
  (vr.e != 0)
theorem wire_Reader__stopped_w (vr : Twire_Reader) (r : Bool) (h : wire_Reader__stopped_g vr = r) : Holds Try.prog 76 [(.ref 1000 0 0)] [(1000, some ⟨106, 3, [(encTwire_Reader vr)]⟩)] (B r) [(1000, some ⟨106, 3, [(encTwire_Reader vr)]⟩)] := by
  unfold wire_Reader__stopped_g at h
  refine holds_fn Try.func76 rfl Try.ntmps76 rfl rfl rfl (fun lim => ?_)
  refine awp_seq ?_
  refine awp_go hmix ?_
  refine go_run' ttok 1 rfl ?_
  refine go_nil nd ?_
  refine then_norm ?_
  refine awp_seq ?_
  refine awp_go hmix ?_
  refine go_run' ttok 1 rfl ?_
  refine go_step rfl (as_refNil (.inl ⟨rfl, rfl⟩) rfl Try.underlying69 rfl rfl) rfl rfl rfl ?_
  refine go_run' ttok 2 rfl ?_
  refine go_step rfl (as_nilCheck rfl rfl) rfl rfl rfl ?_
  refine go_run' ttok 5 rfl ?_
  refine go_nil nd ?_
  refine then_norm ?_
  refine awp_ret ?_
  have e1 := h
  subst e1
  refine ret_ret ?_
  exact finB [(1000, some 1000)] ttok rfl rfl rfl rfl (wkP_refl _ rfl) ⟨⟨_, rfl, rfl, rfl, .inl ⟨rfl, nr_one rfl⟩⟩, trivial⟩

noncomputable def wire_Reader__number_s1 (vr : Twire_Reader) (vat : Int) (n : Int) (i : Int) : Option ((Int × Int) ⊕ (Int × Int × Int)) :=
  (bif (decide (((vr.s.size : Nat) : Int) ≤ (W64 (vat + i)))) then some (Sum.inr (0, 0, 3)) else (Option.bind (bytO vr.s (W64 (vat + i))) (fun c => (Option.bind ((bif (i == 9) then (bif (decide (1 < c)) then some (Sum.inl (Sum.inr (0, 0, 5))) else some (Sum.inr ())) else some (Sum.inr ())) : Option (((Int × Int) ⊕ (Int × Int × Int)) ⊕ Unit)) (Sum.elim (fun q => some q) (fun _ => (bif decide (0 ≤ (W64 (7 * i))) then (bif (decide (128 ≤ c)) then some (Sum.inl ((bOr .u64 n (bShl .u64 (WU64 (bAnd .u8 c 127)) (W64 (7 * i)))), (W64 (i + 1)))) else (bif (c == 0) then (bif (decide (0 < i)) then some (Sum.inr (0, 0, 5)) else some (Sum.inr ((bOr .u64 n (bShl .u64 (WU64 (bAnd .u8 c 127)) (W64 (7 * i)))), (W64 ((W64 (vat + i)) + 1)), 0))) else some (Sum.inr ((bOr .u64 n (bShl .u64 (WU64 (bAnd .u8 c 127)) (W64 (7 * i)))), (W64 ((W64 (vat + i)) + 1)), 0)))) else none)))))))
/-- (*sawmill/wire.Reader).number -/
noncomputable def wire_Reader__number_g (vr : Twire_Reader) (vat : Int) : Option (Int × Int × Int) :=
  (loopO (fun q => wire_Reader__number_s1 vr vat q.1 q.2) (0, 0))
theorem wire_Reader__number_w (vr : Twire_Reader) (vat : Int) (r : (Int × Int × Int)) (h : wire_Reader__number_g vr vat = some r) : Holds Try.prog 94 [(.ref 1000 0 0), (I vat)] [(1000, some ⟨106, 3, [(encTwire_Reader vr)]⟩)] (.tup [(U64 r.1), (I r.2.1), (I r.2.2)]) [(1000, some ⟨106, 3, [(encTwire_Reader vr)]⟩)] := by
  unfold wire_Reader__number_g at h
  refine holds_fn Try.func94 rfl Try.ntmps94 rfl rfl rfl (fun lim => ?_)
  refine awp_seq ?_
  refine awp_go hmix ?_
  refine go_run' ttok 3 rfl ?_
  refine go_nil nd ?_
  refine then_norm ?_
  refine awp_seq ?_
  refine awp_go hmix ?_
  refine go_run' ttok 1 rfl ?_
  refine go_nil nd ?_
  refine then_norm ?_
  refine awp_seq ?_
  refine awp_go hmix ?_
  refine go_run' ttok 1 rfl ?_
  refine go_nil nd ?_
  refine then_norm ?_
  refine awp_block ?_
  refine awp_loopD (X := (Int × Int)) (Y := (Int × Int × Int)) [0, 1] [1000] (fun q => [(7, (U64 q.1)), (8, (I q.2))]) (fun q => []) (fun q => wire_Reader__number_s1 vr vat q.1 q.2) (0, 0) [(1000, some 1000)] h ⟨rfl, rfl, rfl, rfl, rfl, ⟨wkP_id _ rfl, wkP_id _ rfl, trivial⟩, trivial⟩ (fun x vR vz hz1 hk2 => ?_)
  obtain ⟨n, i⟩ := x
  change wire_Reader__number_s1 vr vat n i = _ at hz1
  unfold wire_Reader__number_s1 at hz1
  refine awp_seq ?_
  refine awp_block ?_
  refine awp_seq ?_
  refine awp_seq ?_
  refine awp_go hmix ?_
  refine go_run' ttok 4 rfl ?_
  refine go_step rfl (as_nilCheck rfl rfl) rfl rfl rfl ?_
  refine go_run' ttok 4 rfl ?_
  refine go_nil nd ?_
  refine then_norm ?_
  refine awp_cond (b := (decide (((vr.s.size : Nat) : Int) ≤ (W64 (vat + i))))) rfl (fun c3 => ?_) (fun c3 => ?_)
  · replace hz1 := of_bif_t hz1 c3
    refine awp_seq ?_
    refine awp_go hmix ?_
    refine go_run' ttok 3 rfl ?_
    refine go_nil nd ?_
    refine then_norm ?_
    refine awp_ret ?_
    refine then_ret ?_
    refine block_ret ?_
    refine then_ret ?_
    obtain ⟨t, hn4, hq⟩ := of_mapr' hz1
    subst hq
    have hq : t = _ := hk2
    subst hq
    refine then_ret ?_
    refine block_ret ?_
    have e5 := of_some hn4
    subst e5
    refine ret_ret ?_
    exact finB [(1000, some 1000)] ttok rfl rfl rfl rfl (wkP_refl _ rfl) ⟨⟨_, rfl, rfl, rfl, .inl ⟨rfl, nr_one rfl⟩⟩, trivial⟩
  · replace hz1 := of_bif_f hz1 c3
    refine awp_skip ?_
    refine then_norm ?_
    refine awp_seq ?_
    refine awp_go hmix ?_
    refine go_run' ttok 1 rfl ?_
    refine go_step rfl (as_nilCheck rfl rfl) rfl rfl rfl ?_
    refine go_run' ttok 5 rfl ?_
    obtain ⟨c, hv6, hz1⟩ := of_obind hz1
    refine go_indexB vr.s (W64 (vat + i)) c hv6 ttok rfl rfl rfl rfl rfl rfl rfl ?_
    refine go_run' ttok 1 rfl ?_
    refine go_nil nd ?_
    refine then_norm ?_
    obtain ⟨y, hx7, hz1⟩ := of_obind hz1
    refine awp_seqJ (X := Unit) [0, 1, 7, 8, 9] [1000] (fun _ => []) (fun _ => []) (fun w => Sum.inr w = y) rfl rfl ?_ ?_
    · skip
      refine awp_seq ?_
      refine awp_go hmix ?_
      refine go_run' ttok 3 rfl ?_
      refine go_gcase rfl rfl rfl (fun g9 => ?_) (fun g9 => ?_)
      · rw [g9]
        replace hx7 := of_bif_t hx7 g9
        refine go_run' ttok 3 rfl ?_
        refine go_nil nd ?_
        refine then_norm ?_
        refine awp_cond (b := (decide (1 < c))) rfl (fun c10 => ?_) (fun c10 => ?_)
        · replace hx7 := of_bif_t hx7 c10
          refine awp_seq ?_
          refine awp_go hmix ?_
          refine go_run' ttok 3 rfl ?_
          refine go_nil nd ?_
          refine then_norm ?_
          refine awp_ret ?_
          obtain ⟨t1, hn11, hq⟩ := of_mapl' hx7
          subst hq
          have hq := of_inl hz1
          replace hq := of_some hq
          subst hq
          refine then_ret ?_
          refine block_ret ?_
          refine then_ret ?_
          obtain ⟨t2, hn12, hq⟩ := of_mapr' hn11
          subst hq
          have hq : t2 = _ := hk2
          subst hq
          refine then_ret ?_
          refine block_ret ?_
          have e13 := of_some hn12
          subst e13
          refine ret_ret ?_
          exact finB [(1000, some 1000)] ttok rfl rfl rfl rfl (wkP_refl _ rfl) ⟨⟨_, rfl, rfl, rfl, .inl ⟨rfl, nr_one rfl⟩⟩, trivial⟩
        · replace hx7 := of_bif_f hx7 c10
          refine awp_skip ?_
          have e14 := of_some hx7
          refine then_norm ⟨rfl, (), [(1000, some 1000)], ⟨rfl, rfl, rfl, rfl, rfl, trivial, trivial⟩, e14⟩
      · rw [g9]
        replace hx7 := of_bif_f hx7 g9
        refine go_run' ttok 3 rfl ?_
        refine go_nil nd ?_
        refine then_norm ?_
        refine awp_cond rfl (fun h => by cases h) (fun tt0 => ?_)
        clear tt0
        refine awp_skip ?_
        have e15 := of_some hx7
        refine then_norm ⟨rfl, (), [(1000, some 1000)], ⟨rfl, rfl, rfl, rfl, rfl, trivial, trivial⟩, e15⟩
    · intro w hw8
      subst hw8
      replace hz1 := of_inr hz1
      refine awp_seq ?_
      refine awp_go hmix ?_
      refine go_run' ttok 6 rfl ?_
      obtain ⟨hd16, hz1⟩ := of_grd hz1
      refine go_shlT (WU64 (bAnd .u8 c 127)) (W64 (7 * i)) hd16 rfl rfl rfl rfl rfl ?_
      refine go_run' ttok 2 rfl ?_
      refine go_nil nd ?_
      refine then_norm ?_
      refine awp_seq ?_
      refine awp_seq ?_
      refine awp_go hmix ?_
      refine go_run' ttok 2 rfl ?_
      refine go_nil nd ?_
      refine then_norm ?_
      refine awp_cond (b := (decide (128 ≤ c))) rfl (fun c17 => ?_) (fun c17 => ?_)
      · replace hz1 := of_bif_t hz1 c17
        refine awp_exit ?_
        refine then_exit ?_
        refine block_here ?_
        refine then_norm ?_
        refine awp_go hmix ?_
        refine go_run' ttok 3 rfl ?_
        refine go_nil nd ?_
        have e18 := of_some hz1
        subst e18
        refine then_norm ⟨rfl, ((bOr .u64 n (bShl .u64 (WU64 (bAnd .u8 c 127)) (W64 (7 * i)))), (W64 (i + 1))), [(1000, some 1000)], ⟨rfl, rfl, rfl, rfl, rfl, ⟨wkP_id _ rfl, wkP_id _ rfl, trivial⟩, trivial⟩, hk2⟩
      · replace hz1 := of_bif_f hz1 c17
        refine awp_skip ?_
        refine then_norm ?_
        refine awp_seq ?_
        refine awp_seq ?_
        refine awp_go hmix ?_
        refine go_run' ttok 3 rfl ?_
        refine go_gcase rfl rfl rfl (fun g19 => ?_) (fun g19 => ?_)
        · rw [g19]
          replace hz1 := of_bif_t hz1 g19
          refine go_run' ttok 3 rfl ?_
          refine go_nil nd ?_
          refine then_norm ?_
          refine awp_cond (b := (decide (0 < i))) rfl (fun c20 => ?_) (fun c20 => ?_)
          · replace hz1 := of_bif_t hz1 c20
            refine awp_seq ?_
            refine awp_go hmix ?_
            refine go_run' ttok 3 rfl ?_
            refine go_nil nd ?_
            refine then_norm ?_
            refine awp_ret ?_
            refine then_ret ?_
            refine block_ret ?_
            refine then_ret ?_
            obtain ⟨t3, hn21, hq⟩ := of_mapr' hz1
            subst hq
            have hq : t3 = _ := hk2
            subst hq
            refine then_ret ?_
            refine block_ret ?_
            have e22 := of_some hn21
            subst e22
            refine ret_ret ?_
            exact finB [(1000, some 1000)] ttok rfl rfl rfl rfl (wkP_refl _ rfl) ⟨⟨_, rfl, rfl, rfl, .inl ⟨rfl, nr_one rfl⟩⟩, trivial⟩
          · replace hz1 := of_bif_f hz1 c20
            refine awp_skip ?_
            refine then_norm ?_
            refine awp_seq ?_
            refine awp_go hmix ?_
            refine go_run' ttok 8 rfl ?_
            refine go_nil nd ?_
            refine then_norm ?_
            refine awp_ret ?_
            refine block_ret ?_
            refine then_ret ?_
            obtain ⟨t4, hn23, hq⟩ := of_mapr' hz1
            subst hq
            have hq : t4 = _ := hk2
            subst hq
            refine then_ret ?_
            refine block_ret ?_
            have e24 := of_some hn23
            subst e24
            refine ret_ret ?_
            exact finB [(1000, some 1000)] ttok rfl rfl rfl rfl (wkP_refl _ rfl) ⟨⟨_, rfl, rfl, rfl, .inl ⟨rfl, nr_one rfl⟩⟩, trivial⟩
        · rw [g19]
          replace hz1 := of_bif_f hz1 g19
          refine go_run' ttok 3 rfl ?_
          refine go_nil nd ?_
          refine then_norm ?_
          refine awp_cond rfl (fun h => by cases h) (fun tt0 => ?_)
          clear tt0
          refine awp_skip ?_
          refine then_norm ?_
          refine awp_seq ?_
          refine awp_go hmix ?_
          refine go_run' ttok 8 rfl ?_
          refine go_nil nd ?_
          refine then_norm ?_
          refine awp_ret ?_
          refine block_ret ?_
          refine then_ret ?_
          obtain ⟨t5, hn25, hq⟩ := of_mapr' hz1
          subst hq
          have hq : t5 = _ := hk2
          subst hq
          refine then_ret ?_
          refine block_ret ?_
          have e26 := of_some hn25
          subst e26
          refine ret_ret ?_
          exact finB [(1000, some 1000)] ttok rfl rfl rfl rfl (wkP_refl _ rfl) ⟨⟨_, rfl, rfl, rfl, .inl ⟨rfl, nr_one rfl⟩⟩, trivial⟩
noncomputable def wire_Reader__number_cs1 (N : Nat) (vr : Twire_Reader) (vat : Int) (n : Int) (i : Int) : Option ((Int × Int) ⊕ (Int × Int × Int)) :=
  (bif (decide (((vr.s.size : Nat) : Int) ≤ (W64 (vat + i)))) then some (Sum.inr (0, 0, 3)) else (Option.bind (bytO vr.s (W64 (vat + i))) (fun c => (Option.bind ((bif (i == 9) then (bif (decide (1 < c)) then some (Sum.inl (Sum.inr (0, 0, 5))) else some (Sum.inr ())) else some (Sum.inr ())) : Option (((Int × Int) ⊕ (Int × Int × Int)) ⊕ Unit)) (Sum.elim (fun q => some q) (fun _ => (bif decide (0 ≤ (W64 (7 * i))) then (bif (decide (128 ≤ c)) then some (Sum.inl ((bOr .u64 n (bShl .u64 (WU64 (bAnd .u8 c 127)) (W64 (7 * i)))), (W64 (i + 1)))) else (bif (c == 0) then (bif (decide (0 < i)) then some (Sum.inr (0, 0, 5)) else some (Sum.inr ((bOr .u64 n (bShl .u64 (WU64 (bAnd .u8 c 127)) (W64 (7 * i)))), (W64 ((W64 (vat + i)) + 1)), 0))) else some (Sum.inr ((bOr .u64 n (bShl .u64 (WU64 (bAnd .u8 c 127)) (W64 (7 * i)))), (W64 ((W64 (vat + i)) + 1)), 0)))) else none)))))))
theorem wire_Reader__number_cs1_le (N : Nat) (vr : Twire_Reader) (vat : Int) (n : Int) (i : Int) : OLe (wire_Reader__number_cs1 N vr vat n i) (wire_Reader__number_s1 vr vat n i) := by
  unfold wire_Reader__number_cs1 wire_Reader__number_s1
  repeat' (first | exact ole_rfl | refine ole_bif ?_ ?_ | refine ole_bind ?_ (fun _ => ?_) | refine ole_let (fun _ => ?_) | refine ole_map ?_ | refine ole_elim (fun _ => ?_) (fun _ => ?_) | refine ole_loop (fun _ => ?_))
noncomputable def wire_Reader__number_c (N : Nat) (vr : Twire_Reader) (vat : Int) : Option (Int × Int × Int) :=
  (iterX N (fun q => wire_Reader__number_cs1 N vr vat q.1 q.2) (0, 0))
theorem wire_Reader__number_le (N : Nat) (vr : Twire_Reader) (vat : Int) : OLe (wire_Reader__number_c N vr vat) (wire_Reader__number_g vr vat) := by
  unfold wire_Reader__number_c wire_Reader__number_g
  repeat' (first | exact ole_rfl | exact wire_Reader__number_cs1_le _ _ _ _ _ | refine ole_bif ?_ ?_ | refine ole_bind ?_ (fun _ => ?_) | refine ole_let (fun _ => ?_) | refine ole_map ?_ | refine ole_elim (fun _ => ?_) (fun _ => ?_) | refine ole_loop (fun _ => ?_))

/-- (*sawmill/wire.Reader).counted -/
noncomputable def wire_Reader__counted_g (vr : Twire_Reader) (vat : Int) (most : Int) : Option (Int × Int × Int) :=
  (Option.bind (wire_Reader__number_g vr vat) (fun nv => (bif (nv.2.2 != 0) then some (0, 0, nv.2.2) else (bif (decide (most < 0)) then some (0, 0, 4) else (bif (decide ((WU64 most) < nv.1)) then some (0, 0, 4) else some (nv.1, nv.2.1, 0))))))
theorem wire_Reader__counted_w (vr : Twire_Reader) (vat : Int) (most : Int) (r : (Int × Int × Int)) (h : wire_Reader__counted_g vr vat most = some r) : Holds Try.prog 77 [(.ref 1000 0 0), (I vat), (I most)] [(1000, some ⟨106, 3, [(encTwire_Reader vr)]⟩)] (.tup [(U64 r.1), (I r.2.1), (I r.2.2)]) [(1000, some ⟨106, 3, [(encTwire_Reader vr)]⟩)] := by
  unfold wire_Reader__counted_g at h
  refine holds_fn Try.func77 rfl Try.ntmps77 rfl rfl rfl (fun lim => ?_)
  refine awp_seq ?_
  refine awp_go hmix ?_
  refine go_run' ttok 3 rfl ?_
  refine go_nil nd ?_
  refine then_norm ?_
  refine awp_seq ?_
  refine awp_go hmix ?_
  refine go_run' ttok 2 rfl ?_
  obtain ⟨nv, hv1, h⟩ := of_obind h
  refine go_callM (.tup [(U64 nv.1), (I nv.2.1), (I nv.2.2)]) [] [(1000, some ⟨106, 3, [(.agg [(S vr.s), (I vr.at_), (I vr.e)])]⟩)] [(1000, some 1000)] [(1000, some 1000)] fn94 (wire_Reader__number_w vr vat nv hv1) rfl rfl rfl rfl rfl trivial ⟨⟨rfl, rfl, rfl⟩, (wkP_refl _ rfl), trivial⟩ rfl rfl ⟨⟨_, rfl, rfl, rfl, .inl ⟨rfl, nr_one rfl⟩⟩, trivial⟩ rfl rfl ⟨⟨_, rfl, rfl, rfl, .inl ⟨rfl, nr_one rfl⟩⟩, trivial⟩ (wkP_refl _ rfl) rfl (fun h => absurd rfl h) rfl rfl rfl ?_
  refine go_run' ttok 7 rfl ?_
  refine go_nil nd ?_
  refine then_norm ?_
  refine awp_seq ?_
  refine awp_seq ?_
  refine awp_go hmix ?_
  refine go_run' ttok 2 rfl ?_
  refine go_nil nd ?_
  refine then_norm ?_
  refine awp_cond (b := (nv.2.2 != 0)) rfl (fun c2 => ?_) (fun c2 => ?_)
  · replace h := of_bif_t h c2
    refine awp_seq ?_
    refine awp_go hmix ?_
    refine go_run' ttok 4 rfl ?_
    refine go_nil nd ?_
    refine then_norm ?_
    refine awp_ret ?_
    refine then_ret ?_
    have e3 := of_some h
    subst e3
    refine ret_ret ?_
    exact finB [(1000, some 1000)] ttok rfl rfl rfl rfl (wkP_refl _ rfl) ⟨⟨_, rfl, rfl, rfl, .inl ⟨rfl, nr_one rfl⟩⟩, trivial⟩
  · replace h := of_bif_f h c2
    refine awp_skip ?_
    refine then_norm ?_
    refine awp_seq ?_
    refine awp_seq ?_
    refine awp_go hmix ?_
    refine go_run' ttok 3 rfl ?_
    refine go_gcase rfl rfl rfl (fun g4 => ?_) (fun g4 => ?_)
    · rw [g4]
      replace h := of_bif_t h g4
      refine go_run' ttok 5 rfl ?_
      refine go_nil nd ?_
      refine then_norm ?_
      refine awp_cond rfl (fun tt0 => ?_) (fun h => by cases h)
      clear tt0
      refine awp_seq ?_
      refine awp_go hmix ?_
      refine go_run' ttok 3 rfl ?_
      refine go_nil nd ?_
      refine then_norm ?_
      refine awp_ret ?_
      refine then_ret ?_
      have e5 := of_some h
      subst e5
      refine ret_ret ?_
      exact finB [(1000, some 1000)] ttok rfl rfl rfl rfl (wkP_refl _ rfl) ⟨⟨_, rfl, rfl, rfl, .inl ⟨rfl, nr_one rfl⟩⟩, trivial⟩
    · rw [g4]
      replace h := of_bif_f h g4
      refine go_run' ttok 5 rfl ?_
      refine go_nil nd ?_
      refine then_norm ?_
      refine awp_cond (b := (decide ((WU64 most) < nv.1))) rfl (fun c6 => ?_) (fun c6 => ?_)
      · replace h := of_bif_t h c6
        refine awp_seq ?_
        refine awp_go hmix ?_
        refine go_run' ttok 3 rfl ?_
        refine go_nil nd ?_
        refine then_norm ?_
        refine awp_ret ?_
        refine then_ret ?_
        have e7 := of_some h
        subst e7
        refine ret_ret ?_
        exact finB [(1000, some 1000)] ttok rfl rfl rfl rfl (wkP_refl _ rfl) ⟨⟨_, rfl, rfl, rfl, .inl ⟨rfl, nr_one rfl⟩⟩, trivial⟩
      · replace h := of_bif_f h c6
        refine awp_skip ?_
        refine then_norm ?_
        refine awp_seq ?_
        refine awp_go hmix ?_
        refine go_run' ttok 5 rfl ?_
        refine go_nil nd ?_
        refine then_norm ?_
        refine awp_ret ?_
        have e8 := of_some h
        subst e8
        refine ret_ret ?_
        exact finB [(1000, some 1000)] ttok rfl rfl rfl rfl (wkP_refl _ rfl) ⟨⟨_, rfl, rfl, rfl, .inl ⟨rfl, nr_one rfl⟩⟩, trivial⟩
noncomputable def wire_Reader__counted_c (N : Nat) (vr : Twire_Reader) (vat : Int) (most : Int) : Option (Int × Int × Int) :=
  (Option.bind ((wire_Reader__number_c N) vr vat) (fun nv => (bif (nv.2.2 != 0) then some (0, 0, nv.2.2) else (bif (decide (most < 0)) then some (0, 0, 4) else (bif (decide ((WU64 most) < nv.1)) then some (0, 0, 4) else some (nv.1, nv.2.1, 0))))))
theorem wire_Reader__counted_le (N : Nat) (vr : Twire_Reader) (vat : Int) (most : Int) : OLe (wire_Reader__counted_c N vr vat most) (wire_Reader__counted_g vr vat most) := by
  unfold wire_Reader__counted_c wire_Reader__counted_g
  repeat' (first | exact ole_rfl | exact wire_Reader__number_le _ _ _ | refine ole_bif ?_ ?_ | refine ole_bind ?_ (fun _ => ?_) | refine ole_let (fun _ => ?_) | refine ole_map ?_ | refine ole_elim (fun _ => ?_) (fun _ => ?_) | refine ole_loop (fun _ => ?_))

/-- (*sawmill/wire.Reader).done -/
noncomputable def wire_Reader__done_g (vr : Twire_Reader) (vend : Int) (e : Int) : Twire_Reader :=
  (bif (e != 0) then (⟨vr.s, vr.at_, e⟩ : Twire_Reader) else (⟨vr.s, vend, vr.e⟩ : Twire_Reader))
theorem wire_Reader__done_w (vr : Twire_Reader) (vend : Int) (e : Int) (r : Twire_Reader) (h : wire_Reader__done_g vr vend e = r) : Holds Try.prog 78 [(.ref 1000 0 0), (I vend), (I e)] [(1000, some ⟨106, 3, [(encTwire_Reader vr)]⟩)] (.tup []) [(1000, some ⟨106, 3, [(encTwire_Reader r)]⟩)] := by
  unfold wire_Reader__done_g at h
  refine holds_fn Try.func78 rfl Try.ntmps78 rfl rfl rfl (fun lim => ?_)
  refine awp_seq ?_
  refine awp_seq ?_
  refine awp_go hmix ?_
  refine go_run' ttok 2 rfl ?_
  refine go_nil nd ?_
  refine then_norm ?_
  refine awp_cond (b := (e != 0)) rfl (fun c1 => ?_) (fun c1 => ?_)
  · replace h := of_bif_t h c1
    refine awp_seq ?_
    refine awp_go hmix ?_
    refine go_run' ttok 2 rfl ?_
    refine go_step rfl (as_nilCheck rfl rfl) rfl rfl rfl ?_
    refine go_run' ttok 2 rfl ?_
    refine go_nil nd ?_
    refine then_norm ?_
    refine awp_ret ?_
    refine then_ret ?_
    have e2 := h
    subst e2
    refine ret_ret ?_
    exact finB [(1000, some 1000)] ttok rfl rfl rfl rfl (wkP_refl _ rfl) ⟨⟨_, rfl, rfl, rfl, .inl ⟨rfl, nr_one rfl⟩⟩, trivial⟩
  · replace h := of_bif_f h c1
    refine awp_skip ?_
    refine then_norm ?_
    refine awp_go hmix ?_
    refine go_run' ttok 2 rfl ?_
    refine go_step rfl (as_nilCheck rfl rfl) rfl rfl rfl ?_
    refine go_run' ttok 2 rfl ?_
    refine go_nil nd ?_
    have e3 := h
    subst e3
    refine ret_norm ?_
    exact finB [(1000, some 1000)] ttok rfl rfl rfl rfl (wkP_refl _ rfl) ⟨⟨_, rfl, rfl, rfl, .inl ⟨rfl, nr_one rfl⟩⟩, trivial⟩

/-- (*sawmill/wire.Reader).Text -/
noncomputable def wire_Reader__Text_g (vr : Twire_Reader) (most : Int) : Option (ByteArray × Twire_Reader) :=
  (bif (wire_Reader__stopped_g vr) then some ((⟨#[]⟩ : ByteArray), vr) else (Option.bind (wire_Reader__counted_g vr vr.at_ most) (fun cv => (letB ((bif (cv.2.2 == 0) then (bif (decide ((WU64 (W64 (((vr.s.size : Nat) : Int) - cv.2.1))) < cv.1)) then 3 else cv.2.2) else cv.2.2) : Int) (fun e => (bif (e != 0) then (letB (wire_Reader__done_g vr 0 e) (fun dv => some ((⟨#[]⟩ : ByteArray), dv))) else (letB (wire_Reader__done_g vr (W64 (cv.2.1 + (W64 cv.1))) 0) (fun dv1 => (Option.bind (ssubO dv1.s cv.2.1 (W64 (cv.2.1 + (W64 cv.1)))) (fun t => some (t, dv1)))))))))))
theorem wire_Reader__Text_w (vr : Twire_Reader) (most : Int) (r : (ByteArray × Twire_Reader)) (h : wire_Reader__Text_g vr most = some r) : Holds Try.prog 47 [(.ref 1000 0 0), (I most)] [(1000, some ⟨106, 3, [(encTwire_Reader vr)]⟩)] (S r.1) [(1000, some ⟨106, 3, [(encTwire_Reader r.2)]⟩)] := by
  unfold wire_Reader__Text_g at h
  refine holds_fn Try.func47 rfl Try.ntmps47 rfl rfl rfl (fun lim => ?_)
  refine awp_seq ?_
  refine awp_go hmix ?_
  refine go_run' ttok 1 rfl ?_
  refine go_nil nd ?_
  refine then_norm ?_
  refine awp_seq ?_
  refine awp_seq ?_
  refine awp_go hmix ?_
  refine go_run' ttok 1 rfl ?_
  refine go_callM (B (wire_Reader__stopped_g vr)) [] [(1000, some ⟨106, 3, [(.agg [(S vr.s), (I vr.at_), (I vr.e)])]⟩)] [(1000, some 1000)] [(1000, some 1000)] fn76 (wire_Reader__stopped_w vr _ rfl) rfl rfl rfl rfl rfl trivial ⟨⟨rfl, rfl, rfl⟩, trivial⟩ rfl rfl ⟨⟨_, rfl, rfl, rfl, .inl ⟨rfl, nr_one rfl⟩⟩, trivial⟩ rfl rfl ⟨⟨_, rfl, rfl, rfl, .inl ⟨rfl, nr_one rfl⟩⟩, trivial⟩ (wkP_refl _ rfl) rfl (fun h => absurd rfl h) rfl rfl rfl ?_
  refine go_nil nd ?_
  refine then_norm ?_
  refine awp_cond (b := (wire_Reader__stopped_g vr)) rfl (fun c1 => ?_) (fun c1 => ?_)
  · replace h := of_bif_t h c1
    refine awp_seq ?_
    refine awp_go hmix ?_
    refine go_run' ttok 1 rfl ?_
    refine go_nil nd ?_
    refine then_norm ?_
    refine awp_ret ?_
    refine then_ret ?_
    have e2 := of_some h
    subst e2
    refine ret_ret ?_
    exact finB [(1000, some 1000)] ttok rfl rfl rfl rfl (wkP_refl _ rfl) ⟨⟨_, rfl, rfl, rfl, .inl ⟨rfl, nr_one rfl⟩⟩, trivial⟩
  · replace h := of_bif_f h c1
    refine awp_skip ?_
    refine then_norm ?_
    refine awp_seq ?_
    refine awp_go hmix ?_
    refine go_run' ttok 2 rfl ?_
    refine go_step rfl (as_nilCheck rfl rfl) rfl rfl rfl ?_
    refine go_run' ttok 3 rfl ?_
    obtain ⟨cv, hv3, h⟩ := of_obind h
    refine go_callM (.tup [(U64 cv.1), (I cv.2.1), (I cv.2.2)]) [] [(1000, some ⟨106, 3, [(.agg [(S vr.s), (I vr.at_), (I vr.e)])]⟩)] [(1000, some 1000)] [(1000, some 1000)] fn77 (wire_Reader__counted_w vr vr.at_ most cv hv3) rfl rfl rfl rfl rfl trivial ⟨⟨rfl, rfl, rfl⟩, (wkP_refl _ rfl), (wkP_refl _ rfl), trivial⟩ rfl rfl ⟨⟨_, rfl, rfl, rfl, .inl ⟨rfl, nr_one rfl⟩⟩, trivial⟩ rfl rfl ⟨⟨_, rfl, rfl, rfl, .inl ⟨rfl, nr_one rfl⟩⟩, trivial⟩ (wkP_refl _ rfl) rfl (fun h => absurd rfl h) rfl rfl rfl ?_
    refine go_run' ttok 7 rfl ?_
    refine go_nil nd ?_
    refine then_norm ?_
    obtain ⟨y, hx4, h⟩ := of_let h
    refine awp_seqJ (X := Int) [0, 5, 6] [1000] (fun w => [(7, (I w))]) (fun w => []) (fun w => w = y) rfl rfl ?_ ?_
    · skip
      refine awp_seq ?_
      refine awp_go hmix ?_
      refine go_run' ttok 3 rfl ?_
      refine go_gcase rfl rfl rfl (fun g6 => ?_) (fun g6 => ?_)
      · rw [g6]
        replace hx4 := of_bif_t hx4 g6
        refine go_run' ttok 2 rfl ?_
        refine go_step rfl (as_nilCheck rfl rfl) rfl rfl rfl ?_
        refine go_run' ttok 8 rfl ?_
        refine go_nil nd ?_
        refine then_norm ?_
        refine awp_cond (b := (decide ((WU64 (W64 (((vr.s.size : Nat) : Int) - cv.2.1))) < cv.1))) rfl (fun c7 => ?_) (fun c7 => ?_)
        · replace hx4 := of_bif_t hx4 c7
          refine awp_go hmix ?_
          refine go_run' ttok 1 rfl ?_
          refine go_nil nd ?_
          have e8 := hx4
          refine then_norm ⟨rfl, 3, [(1000, some 1000)], ⟨rfl, rfl, rfl, rfl, rfl, ⟨wkP_id _ rfl, trivial⟩, trivial⟩, e8⟩
        · replace hx4 := of_bif_f hx4 c7
          refine awp_skip ?_
          have e9 := hx4
          refine then_norm ⟨rfl, cv.2.2, [(1000, some 1000)], ⟨rfl, rfl, rfl, rfl, rfl, ⟨wkP_id _ rfl, trivial⟩, trivial⟩, e9⟩
      · rw [g6]
        replace hx4 := of_bif_f hx4 g6
        refine go_run' ttok 11 rfl ?_
        refine go_nil nd ?_
        refine then_norm ?_
        refine awp_cond rfl (fun h => by cases h) (fun tt0 => ?_)
        clear tt0
        refine awp_skip ?_
        have e10 := hx4
        refine then_norm ⟨rfl, cv.2.2, [(1000, some 1000)], ⟨rfl, rfl, rfl, rfl, rfl, ⟨wkP_id _ rfl, trivial⟩, trivial⟩, e10⟩
    · intro e hw5
      subst hw5
      refine awp_seq ?_
      refine awp_seq ?_
      refine awp_go hmix ?_
      refine go_run' ttok 2 rfl ?_
      refine go_nil nd ?_
      refine then_norm ?_
      refine awp_cond (b := (e != 0)) rfl (fun c11 => ?_) (fun c11 => ?_)
      · replace h := of_bif_t h c11
        refine awp_seq ?_
        refine awp_go hmix ?_
        refine go_run' ttok 2 rfl ?_
        obtain ⟨dv, hv12, h⟩ := of_let h
        refine go_callM (.tup []) [] [(1000, some ⟨106, 3, [(.agg [(S dv.s), (I dv.at_), (I dv.e)])]⟩)] [(1000, some 1000)] [(1000, some 1000)] fn78 (wire_Reader__done_w vr 0 e dv hv12) rfl rfl rfl rfl rfl trivial ⟨⟨rfl, rfl, rfl⟩, (wkP_refl _ rfl), (wkP_refl _ rfl), trivial⟩ rfl rfl ⟨⟨_, rfl, rfl, rfl, .inl ⟨rfl, nr_one rfl⟩⟩, trivial⟩ rfl rfl ⟨⟨_, rfl, rfl, rfl, .inl ⟨rfl, nr_one rfl⟩⟩, trivial⟩ (wkP_refl _ rfl) rfl (fun h => absurd rfl h) rfl rfl rfl ?_
        refine go_nil nd ?_
        refine then_norm ?_
        refine awp_seq ?_
        refine awp_go hmix ?_
        refine go_run' ttok 1 rfl ?_
        refine go_nil nd ?_
        refine then_norm ?_
        refine awp_ret ?_
        refine then_ret ?_
        have e13 := of_some h
        subst e13
        refine ret_ret ?_
        exact finB [(1000, some 1000)] ttok rfl rfl rfl rfl (wkP_refl _ rfl) ⟨⟨_, rfl, rfl, rfl, .inl ⟨rfl, nr_one rfl⟩⟩, trivial⟩
      · replace h := of_bif_f h c11
        refine awp_skip ?_
        refine then_norm ?_
        refine awp_seq ?_
        refine awp_go hmix ?_
        refine go_run' ttok 5 rfl ?_
        refine go_nil nd ?_
        refine then_norm ?_
        refine awp_seq ?_
        refine awp_go hmix ?_
        refine go_run' ttok 2 rfl ?_
        obtain ⟨dv1, hv14, h⟩ := of_let h
        refine go_callM (.tup []) [] [(1000, some ⟨106, 3, [(.agg [(S dv1.s), (I dv1.at_), (I dv1.e)])]⟩)] [(1000, some 1000)] [(1000, some 1000)] fn78 (wire_Reader__done_w vr (W64 (cv.2.1 + (W64 cv.1))) 0 dv1 hv14) rfl rfl rfl rfl rfl trivial ⟨⟨rfl, rfl, rfl⟩, (wkP_refl _ rfl), (wkP_refl _ rfl), trivial⟩ rfl rfl ⟨⟨_, rfl, rfl, rfl, .inl ⟨rfl, nr_one rfl⟩⟩, trivial⟩ rfl rfl ⟨⟨_, rfl, rfl, rfl, .inl ⟨rfl, nr_one rfl⟩⟩, trivial⟩ (wkP_refl _ rfl) rfl (fun h => absurd rfl h) rfl rfl rfl ?_
        refine go_nil nd ?_
        refine then_norm ?_
        refine awp_seq ?_
        refine awp_go hmix ?_
        refine go_run' ttok 1 rfl ?_
        refine go_step rfl (as_nilCheck rfl rfl) rfl rfl rfl ?_
        refine go_run' ttok 4 rfl ?_
        obtain ⟨t, hv15, h⟩ := of_obind h
        refine go_sliceS dv1.s t cv.2.1 (W64 (cv.2.1 + (W64 cv.1))) hv15 ttok rfl rfl rfl rfl rfl ⟨_, rfl⟩ ⟨_, rfl⟩ rfl ?_
        refine go_run' ttok 1 rfl ?_
        refine go_nil nd ?_
        refine then_norm ?_
        refine awp_ret ?_
        have e16 := of_some h
        subst e16
        refine ret_ret ?_
        exact finB [(1000, some 1000)] ttok rfl rfl rfl rfl (wkP_refl _ rfl) ⟨⟨_, rfl, rfl, rfl, .inl ⟨rfl, nr_one rfl⟩⟩, trivial⟩
noncomputable def wire_Reader__Text_c (N : Nat) (vr : Twire_Reader) (most : Int) : Option (ByteArray × Twire_Reader) :=
  (bif (wire_Reader__stopped_g vr) then some ((⟨#[]⟩ : ByteArray), vr) else (Option.bind ((wire_Reader__counted_c N) vr vr.at_ most) (fun cv => (letB ((bif (cv.2.2 == 0) then (bif (decide ((WU64 (W64 (((vr.s.size : Nat) : Int) - cv.2.1))) < cv.1)) then 3 else cv.2.2) else cv.2.2) : Int) (fun e => (bif (e != 0) then (letB (wire_Reader__done_g vr 0 e) (fun dv => some ((⟨#[]⟩ : ByteArray), dv))) else (letB (wire_Reader__done_g vr (W64 (cv.2.1 + (W64 cv.1))) 0) (fun dv1 => (Option.bind (ssubO dv1.s cv.2.1 (W64 (cv.2.1 + (W64 cv.1)))) (fun t => some (t, dv1)))))))))))
theorem wire_Reader__Text_le (N : Nat) (vr : Twire_Reader) (most : Int) : OLe (wire_Reader__Text_c N vr most) (wire_Reader__Text_g vr most) := by
  unfold wire_Reader__Text_c wire_Reader__Text_g
  repeat' (first | exact ole_rfl | exact wire_Reader__counted_le _ _ _ _ | refine ole_bif ?_ ?_ | refine ole_bind ?_ (fun _ => ?_) | refine ole_let (fun _ => ?_) | refine ole_map ?_ | refine ole_elim (fun _ => ?_) (fun _ => ?_) | refine ole_loop (fun _ => ?_))

/-- (*sawmill/wire.Reader).signed -/
noncomputable def wire_Reader__signed_g (vr : Twire_Reader) (vat : Int) (low : Int) (high : Int) : Option (Int × Int × Int) :=
  (Option.bind (wire_Reader__number_g vr vat) (fun nv => (bif (nv.2.2 != 0) then some (0, 0, nv.2.2) else (letB ((bif ((bAnd .u64 nv.1 1) == 1) then (bNot .i64 (W64 (bShr .u64 nv.1 1))) else (W64 (bShr .u64 nv.1 1))) : Int) (fun n => (bif (decide (n < low)) then some (0, 0, 9) else (bif (decide (high < n)) then some (0, 0, 9) else some (n, nv.2.1, 0))))))))
theorem wire_Reader__signed_w (vr : Twire_Reader) (vat : Int) (low : Int) (high : Int) (r : (Int × Int × Int)) (h : wire_Reader__signed_g vr vat low high = some r) : Holds Try.prog 79 [(.ref 1000 0 0), (I vat), (I low), (I high)] [(1000, some ⟨106, 3, [(encTwire_Reader vr)]⟩)] (.tup [(I r.1), (I r.2.1), (I r.2.2)]) [(1000, some ⟨106, 3, [(encTwire_Reader vr)]⟩)] := by
  unfold wire_Reader__signed_g at h
  refine holds_fn Try.func79 rfl Try.ntmps79 rfl rfl rfl (fun lim => ?_)
  refine awp_seq ?_
  refine awp_go hmix ?_
  refine go_run' ttok 3 rfl ?_
  refine go_nil nd ?_
  refine then_norm ?_
  refine awp_seq ?_
  refine awp_go hmix ?_
  refine go_run' ttok 2 rfl ?_
  obtain ⟨nv, hv1, h⟩ := of_obind h
  refine go_callM (.tup [(U64 nv.1), (I nv.2.1), (I nv.2.2)]) [] [(1000, some ⟨106, 3, [(.agg [(S vr.s), (I vr.at_), (I vr.e)])]⟩)] [(1000, some 1000)] [(1000, some 1000)] fn94 (wire_Reader__number_w vr vat nv hv1) rfl rfl rfl rfl rfl trivial ⟨⟨rfl, rfl, rfl⟩, (wkP_refl _ rfl), trivial⟩ rfl rfl ⟨⟨_, rfl, rfl, rfl, .inl ⟨rfl, nr_one rfl⟩⟩, trivial⟩ rfl rfl ⟨⟨_, rfl, rfl, rfl, .inl ⟨rfl, nr_one rfl⟩⟩, trivial⟩ (wkP_refl _ rfl) rfl (fun h => absurd rfl h) rfl rfl rfl ?_
  refine go_run' ttok 7 rfl ?_
  refine go_nil nd ?_
  refine then_norm ?_
  refine awp_seq ?_
  refine awp_seq ?_
  refine awp_go hmix ?_
  refine go_run' ttok 2 rfl ?_
  refine go_nil nd ?_
  refine then_norm ?_
  refine awp_cond (b := (nv.2.2 != 0)) rfl (fun c2 => ?_) (fun c2 => ?_)
  · replace h := of_bif_t h c2
    refine awp_seq ?_
    refine awp_go hmix ?_
    refine go_run' ttok 4 rfl ?_
    refine go_nil nd ?_
    refine then_norm ?_
    refine awp_ret ?_
    refine then_ret ?_
    have e3 := of_some h
    subst e3
    refine ret_ret ?_
    exact finB [(1000, some 1000)] ttok rfl rfl rfl rfl (wkP_refl _ rfl) ⟨⟨_, rfl, rfl, rfl, .inl ⟨rfl, nr_one rfl⟩⟩, trivial⟩
  · replace h := of_bif_f h c2
    refine awp_skip ?_
    refine then_norm ?_
    refine awp_seq ?_
    refine awp_go hmix ?_
    refine go_run' ttok 4 rfl ?_
    refine go_nil nd ?_
    refine then_norm ?_
    obtain ⟨y, hx4, h⟩ := of_let h
    refine awp_seqJ (X := Int) [2, 3, 12] [1000] (fun w => [(14, (I w))]) (fun w => []) (fun w => w = y) rfl rfl ?_ ?_
    · skip
      refine awp_seq ?_
      refine awp_go hmix ?_
      refine go_run' ttok 3 rfl ?_
      refine go_nil nd ?_
      refine then_norm ?_
      refine awp_cond (b := ((bAnd .u64 nv.1 1) == 1)) rfl (fun c6 => ?_) (fun c6 => ?_)
      · replace hx4 := of_bif_t hx4 c6
        refine awp_go hmix ?_
        refine go_run' ttok 3 rfl ?_
        refine go_nil nd ?_
        have e7 := hx4
        refine then_norm ⟨rfl, (bNot .i64 (W64 (bShr .u64 nv.1 1))), [(1000, some 1000)], ⟨rfl, rfl, rfl, rfl, rfl, ⟨wkP_id _ rfl, trivial⟩, trivial⟩, e7⟩
      · replace hx4 := of_bif_f hx4 c6
        refine awp_skip ?_
        have e8 := hx4
        refine then_norm ⟨rfl, (W64 (bShr .u64 nv.1 1)), [(1000, some 1000)], ⟨rfl, rfl, rfl, rfl, rfl, ⟨wkP_id _ rfl, trivial⟩, trivial⟩, e8⟩
    · intro n hw5
      subst hw5
      refine awp_seq ?_
      refine awp_seq ?_
      refine awp_go hmix ?_
      refine go_run' ttok 4 rfl ?_
      refine go_gcase rfl rfl rfl (fun g9 => ?_) (fun g9 => ?_)
      · rw [g9]
        replace h := of_bif_t h g9
        refine go_run' ttok 4 rfl ?_
        refine go_nil nd ?_
        refine then_norm ?_
        refine awp_cond rfl (fun tt0 => ?_) (fun h => by cases h)
        clear tt0
        refine awp_seq ?_
        refine awp_go hmix ?_
        refine go_run' ttok 3 rfl ?_
        refine go_nil nd ?_
        refine then_norm ?_
        refine awp_ret ?_
        refine then_ret ?_
        have e10 := of_some h
        subst e10
        refine ret_ret ?_
        exact finB [(1000, some 1000)] ttok rfl rfl rfl rfl (wkP_refl _ rfl) ⟨⟨_, rfl, rfl, rfl, .inl ⟨rfl, nr_one rfl⟩⟩, trivial⟩
      · rw [g9]
        replace h := of_bif_f h g9
        refine go_run' ttok 4 rfl ?_
        refine go_nil nd ?_
        refine then_norm ?_
        refine awp_cond (b := (decide (high < n))) rfl (fun c11 => ?_) (fun c11 => ?_)
        · replace h := of_bif_t h c11
          refine awp_seq ?_
          refine awp_go hmix ?_
          refine go_run' ttok 3 rfl ?_
          refine go_nil nd ?_
          refine then_norm ?_
          refine awp_ret ?_
          refine then_ret ?_
          have e12 := of_some h
          subst e12
          refine ret_ret ?_
          exact finB [(1000, some 1000)] ttok rfl rfl rfl rfl (wkP_refl _ rfl) ⟨⟨_, rfl, rfl, rfl, .inl ⟨rfl, nr_one rfl⟩⟩, trivial⟩
        · replace h := of_bif_f h c11
          refine awp_skip ?_
          refine then_norm ?_
          refine awp_seq ?_
          refine awp_go hmix ?_
          refine go_run' ttok 5 rfl ?_
          refine go_nil nd ?_
          refine then_norm ?_
          refine awp_ret ?_
          have e13 := of_some h
          subst e13
          refine ret_ret ?_
          exact finB [(1000, some 1000)] ttok rfl rfl rfl rfl (wkP_refl _ rfl) ⟨⟨_, rfl, rfl, rfl, .inl ⟨rfl, nr_one rfl⟩⟩, trivial⟩
noncomputable def wire_Reader__signed_c (N : Nat) (vr : Twire_Reader) (vat : Int) (low : Int) (high : Int) : Option (Int × Int × Int) :=
  (Option.bind ((wire_Reader__number_c N) vr vat) (fun nv => (bif (nv.2.2 != 0) then some (0, 0, nv.2.2) else (letB ((bif ((bAnd .u64 nv.1 1) == 1) then (bNot .i64 (W64 (bShr .u64 nv.1 1))) else (W64 (bShr .u64 nv.1 1))) : Int) (fun n => (bif (decide (n < low)) then some (0, 0, 9) else (bif (decide (high < n)) then some (0, 0, 9) else some (n, nv.2.1, 0))))))))
theorem wire_Reader__signed_le (N : Nat) (vr : Twire_Reader) (vat : Int) (low : Int) (high : Int) : OLe (wire_Reader__signed_c N vr vat low high) (wire_Reader__signed_g vr vat low high) := by
  unfold wire_Reader__signed_c wire_Reader__signed_g
  repeat' (first | exact ole_rfl | exact wire_Reader__number_le _ _ _ | refine ole_bif ?_ ?_ | refine ole_bind ?_ (fun _ => ?_) | refine ole_let (fun _ => ?_) | refine ole_map ?_ | refine ole_elim (fun _ => ?_) (fun _ => ?_) | refine ole_loop (fun _ => ?_))

noncomputable def wire_Reader__Ints_s1 (vr : Twire_Reader) (low : Int) (high : Int) (cv : (Int × Int × Int)) (vat1 : Int) (e1 : Int) (l1 : (List Int)) (i : Int) : Option ((Int × Int × (List Int) × Int) ⊕ (Int × Int × (List Int))) :=
  (bif (decide (i < cv.1)) then (bif (e1 == 0) then (Option.bind (wire_Reader__signed_g vr vat1 low high) (fun sv => (Option.bind (appO 8 l1 ([sv.1])) (fun l2 => some (Sum.inl (sv.2.1, sv.2.2, l2, (WU64 (i + 1)))))))) else some (Sum.inr (vat1, e1, l1))) else some (Sum.inr (vat1, e1, l1)))
/-- (*sawmill/wire.Reader).Ints -/
noncomputable def wire_Reader__Ints_g (vr : Twire_Reader) (most : Int) (low : Int) (high : Int) : Option ((List Int) × Twire_Reader) :=
  (bif (wire_Reader__stopped_g vr) then some ([], vr) else (Option.bind (wire_Reader__counted_g vr vr.at_ most) (fun cv => (Option.bind ((loopO (fun q => wire_Reader__Ints_s1 vr low high cv q.1 q.2.1 q.2.2.1 q.2.2.2) (cv.2.1, cv.2.2, [], 0)) : Option (Int × Int × (List Int))) (fun w1 => (letB (wire_Reader__done_g vr w1.1 w1.2.1) (fun dv => (bif (w1.2.1 != 0) then some ([], dv) else some (w1.2.2, dv)))))))))
theorem wire_Reader__Ints_w (vr : Twire_Reader) (most : Int) (low : Int) (high : Int) (r : ((List Int) × Twire_Reader)) (h : wire_Reader__Ints_g vr most low high = some r) : Holds Try.prog 48 [(.ref 1000 0 0), (I most), (I low), (I high)] [(1000, some ⟨106, 3, [(encTwire_Reader vr)]⟩)] ((encL I) r.1) [(1000, some ⟨106, 3, [(encTwire_Reader r.2)]⟩)] := by
  unfold wire_Reader__Ints_g at h
  refine holds_fn Try.func48 rfl Try.ntmps48 rfl rfl rfl (fun lim => ?_)
  refine awp_seq ?_
  refine awp_go hmix ?_
  refine go_run' ttok 1 rfl ?_
  refine go_nil nd ?_
  refine then_norm ?_
  refine awp_seq ?_
  refine awp_seq ?_
  refine awp_go hmix ?_
  refine go_run' ttok 1 rfl ?_
  refine go_callM (B (wire_Reader__stopped_g vr)) [] [(1000, some ⟨106, 3, [(.agg [(S vr.s), (I vr.at_), (I vr.e)])]⟩)] [(1000, some 1000)] [(1000, some 1000)] fn76 (wire_Reader__stopped_w vr _ rfl) rfl rfl rfl rfl rfl trivial ⟨⟨rfl, rfl, rfl⟩, trivial⟩ rfl rfl ⟨⟨_, rfl, rfl, rfl, .inl ⟨rfl, nr_one rfl⟩⟩, trivial⟩ rfl rfl ⟨⟨_, rfl, rfl, rfl, .inl ⟨rfl, nr_one rfl⟩⟩, trivial⟩ (wkP_refl _ rfl) rfl (fun h => absurd rfl h) rfl rfl rfl ?_
  refine go_nil nd ?_
  refine then_norm ?_
  refine awp_cond (b := (wire_Reader__stopped_g vr)) rfl (fun c1 => ?_) (fun c1 => ?_)
  · replace h := of_bif_t h c1
    refine awp_seq ?_
    refine awp_go hmix ?_
    refine go_run' ttok 1 rfl ?_
    refine go_nil nd ?_
    refine then_norm ?_
    refine awp_ret ?_
    refine then_ret ?_
    have e2 := of_some h
    subst e2
    refine ret_ret ?_
    exact finB [(1000, some 1000)] ttok rfl rfl rfl rfl (wkP_nilm) ⟨⟨_, rfl, rfl, rfl, .inl ⟨rfl, nr_one rfl⟩⟩, trivial⟩
  · replace h := of_bif_f h c1
    refine awp_skip ?_
    refine then_norm ?_
    refine awp_seq ?_
    refine awp_go hmix ?_
    refine go_run' ttok 2 rfl ?_
    refine go_step rfl (as_nilCheck rfl rfl) rfl rfl rfl ?_
    refine go_run' ttok 3 rfl ?_
    obtain ⟨cv, hv3, h⟩ := of_obind h
    refine go_callM (.tup [(U64 cv.1), (I cv.2.1), (I cv.2.2)]) [] [(1000, some ⟨106, 3, [(.agg [(S vr.s), (I vr.at_), (I vr.e)])]⟩)] [(1000, some 1000)] [(1000, some 1000)] fn77 (wire_Reader__counted_w vr vr.at_ most cv hv3) rfl rfl rfl rfl rfl trivial ⟨⟨rfl, rfl, rfl⟩, (wkP_refl _ rfl), (wkP_refl _ rfl), trivial⟩ rfl rfl ⟨⟨_, rfl, rfl, rfl, .inl ⟨rfl, nr_one rfl⟩⟩, trivial⟩ rfl rfl ⟨⟨_, rfl, rfl, rfl, .inl ⟨rfl, nr_one rfl⟩⟩, trivial⟩ (wkP_refl _ rfl) rfl (fun h => absurd rfl h) rfl rfl rfl ?_
    refine go_run' ttok 7 rfl ?_
    refine go_nil nd ?_
    refine then_norm ?_
    refine awp_seq ?_
    refine awp_go hmix ?_
    refine go_run' ttok 1 rfl ?_
    refine go_nil nd ?_
    refine then_norm ?_
    obtain ⟨y, hx4, h⟩ := of_obind h
    refine awp_seqJ (X := (Int × Int × (List Int))) [0] [1000] (fun w => [(10, (I w.1)), (11, (I w.2.1)), (12, (.arr 12 0 w.2.2.length))]) (fun w => [(12, some ⟨3, 1, w.2.2.map I⟩)]) (fun w => w = y) rfl rfl ?_ ?_
    · skip
      refine awp_seq ?_
      refine awp_go hmix ?_
      refine go_run' ttok 1 rfl ?_
      refine go_nil nd ?_
      refine then_norm ?_
      refine awp_block ?_
      refine awp_loopD (X := (Int × Int × (List Int) × Int)) (Y := (Int × Int × (List Int))) [0, 2, 3, 9] [1000] (fun q => [(10, (I q.1)), (11, (I q.2.1)), (12, (.arr 12 0 q.2.2.1.length)), (13, (U64 q.2.2.2))]) (fun q => [(12, some ⟨3, 1, q.2.2.1.map I⟩)]) (fun q => wire_Reader__Ints_s1 vr low high cv q.1 q.2.1 q.2.2.1 q.2.2.2) (cv.2.1, cv.2.2, [], 0) [(12, none), (1000, some 1000)] hx4 ⟨rfl, rfl, rfl, rfl, rfl, ⟨wkP_id _ rfl, wkP_id _ rfl, ⟨rfl, rfl, (by first | rfl | simp [setI])⟩, wkP_id _ rfl, trivial⟩, ⟨rfl, trivial⟩⟩ (fun x vR vz hz6 hk7 => ?_)
      obtain ⟨vat1, e1, l1, i⟩ := x
      change wire_Reader__Ints_s1 vr low high cv vat1 e1 l1 i = _ at hz6
      unfold wire_Reader__Ints_s1 at hz6
      refine awp_seq ?_
      refine awp_seq ?_
      refine awp_go hmix ?_
      refine go_run' ttok 4 rfl ?_
      refine go_gcase rfl rfl rfl (fun g8 => ?_) (fun g8 => ?_)
      · rw [g8]
        replace hz6 := of_bif_t hz6 g8
        refine go_run' ttok 3 rfl ?_
        refine go_nil nd ?_
        refine then_norm ?_
        refine awp_cond (b := (e1 == 0)) rfl (fun c9 => ?_) (fun c9 => ?_)
        · replace hz6 := of_bif_t hz6 c9
          refine awp_skip ?_
          refine then_norm ?_
          refine awp_seq ?_
          refine awp_block ?_
          refine awp_seq ?_
          refine awp_go hmix ?_
          refine go_run' ttok 1 rfl ?_
          refine go_nil nd ?_
          refine then_norm ?_
          refine awp_seq ?_
          refine awp_go hmix ?_
          refine go_run' ttok 4 rfl ?_
          obtain ⟨sv, hv10, hz6⟩ := of_obind hz6
          refine go_callM (.tup [(I sv.1), (I sv.2.1), (I sv.2.2)]) [] [(1000, some ⟨106, 3, [(.agg [(S vr.s), (I vr.at_), (I vr.e)])]⟩)] [(1000, some 1000)] [(1000, some 1000)] fn79 (wire_Reader__signed_w vr vat1 low high sv hv10) rfl rfl rfl rfl rfl trivial ⟨⟨rfl, rfl, rfl⟩, (wkP_refl _ rfl), (wkP_refl _ rfl), (wkP_refl _ rfl), trivial⟩ rfl rfl ⟨⟨_, rfl, rfl, rfl, .inl ⟨rfl, nr_one rfl⟩⟩, trivial⟩ rfl rfl ⟨⟨_, rfl, rfl, rfl, .inl ⟨rfl, nr_one rfl⟩⟩, trivial⟩ (wkP_refl _ rfl) rfl (fun h => absurd rfl h) rfl rfl rfl ?_
          refine go_run' ttok 7 rfl ?_
          refine go_nil nd ?_
          refine then_norm ?_
          refine awp_go hmix ?_
          refine go_run' ttok 3 rfl ?_
          obtain ⟨l2, hv11, hz6⟩ := of_obind hz6
          refine go_appT I l1 ([sv.1]) l2 hv11 (fun _ => rfl) (by first | rfl | simp [setI]) (by first | rfl | simp [setI]) ttok rfl rfl rfl rfl rfl rfl rfl rfl rfl rfl rfl rfl rfl rfl rfl rfl rfl ?_
          refine go_run' ttok 1 rfl ?_
          refine go_nil nd ?_
          refine block_norm ?_
          refine then_norm ?_
          refine awp_go hmix ?_
          refine go_run' ttok 3 rfl ?_
          refine go_nil nd ?_
          have e12 := of_some hz6
          subst e12
          refine then_norm ⟨rfl, (sv.2.1, sv.2.2, l2, (WU64 (i + 1))), [(12, some 49), (1000, some 1000)], ⟨rfl, rfl, rfl, rfl, rfl, ⟨wkP_id _ rfl, wkP_id _ rfl, ⟨rfl, rfl, (by first | rfl | simp [setI])⟩, wkP_id _ rfl, trivial⟩, ⟨⟨_, rfl, rfl, rfl, wkX_map (enc := I) l2 (fun _ => rfl)⟩, trivial⟩⟩, hk7⟩
        · replace hz6 := of_bif_f hz6 c9
          refine awp_exit ?_
          refine then_exit ?_
          obtain ⟨t, hn13, hq⟩ := of_mapr' hz6
          subst hq
          have hq : t = _ := hk7
          subst hq
          refine then_exit ?_
          refine block_here ?_
          have e14 := of_some hn13
          refine then_norm ⟨rfl, (vat1, e1, l1), [(12, some 12), (1000, some 1000)], ⟨rfl, rfl, rfl, rfl, rfl, ⟨wkP_id _ rfl, wkP_id _ rfl, ⟨rfl, rfl, (by first | rfl | simp [setI])⟩, trivial⟩, ⟨⟨_, rfl, rfl, rfl, wkX_map (enc := I) l1 (fun _ => rfl)⟩, trivial⟩⟩, e14⟩
      · rw [g8]
        replace hz6 := of_bif_f hz6 g8
        refine go_run' ttok 3 rfl ?_
        refine go_nil nd ?_
        refine then_norm ?_
        refine awp_cond rfl (fun h => by cases h) (fun tt0 => ?_)
        clear tt0
        refine awp_exit ?_
        refine then_exit ?_
        obtain ⟨t1, hn15, hq⟩ := of_mapr' hz6
        subst hq
        have hq : t1 = _ := hk7
        subst hq
        refine then_exit ?_
        refine block_here ?_
        have e16 := of_some hn15
        refine then_norm ⟨rfl, (vat1, e1, l1), [(12, some 12), (1000, some 1000)], ⟨rfl, rfl, rfl, rfl, rfl, ⟨wkP_id _ rfl, wkP_id _ rfl, ⟨rfl, rfl, (by first | rfl | simp [setI])⟩, trivial⟩, ⟨⟨_, rfl, rfl, rfl, wkX_map (enc := I) l1 (fun _ => rfl)⟩, trivial⟩⟩, e16⟩
    · intro w hw5
      subst hw5
      obtain ⟨vat, e, l⟩ := w
      refine awp_seq ?_
      refine awp_go hmix ?_
      refine go_run' ttok 3 rfl ?_
      obtain ⟨dv, hv17, h⟩ := of_let h
      refine go_callM (.tup []) [] [(1000, some ⟨106, 3, [(.agg [(S dv.s), (I dv.at_), (I dv.e)])]⟩)] [(1000, some 1000)] [(1000, some 1000)] fn78 (wire_Reader__done_w vr vat e dv hv17) rfl rfl rfl rfl rfl trivial ⟨⟨rfl, rfl, rfl⟩, (wkP_refl _ rfl), (wkP_refl _ rfl), trivial⟩ rfl rfl ⟨⟨_, rfl, rfl, rfl, .inl ⟨rfl, nr_one rfl⟩⟩, trivial⟩ rfl rfl ⟨⟨_, rfl, rfl, rfl, .inl ⟨rfl, nr_one rfl⟩⟩, trivial⟩ (wkP_refl _ rfl) rfl (fun h => absurd rfl h) rfl rfl rfl ?_
      refine go_nil nd ?_
      refine then_norm ?_
      refine awp_seq ?_
      refine awp_seq ?_
      refine awp_go hmix ?_
      refine go_run' ttok 2 rfl ?_
      refine go_nil nd ?_
      refine then_norm ?_
      refine awp_cond (b := (e != 0)) rfl (fun c18 => ?_) (fun c18 => ?_)
      · replace h := of_bif_t h c18
        refine awp_seq ?_
        refine awp_go hmix ?_
        refine go_run' ttok 1 rfl ?_
        refine go_nil nd ?_
        refine then_norm ?_
        refine awp_ret ?_
        refine then_ret ?_
        have e19 := of_some h
        subst e19
        refine ret_ret ?_
        exact finB [(1000, some 1000)] ttok rfl rfl rfl rfl (wkP_nilm) ⟨⟨_, rfl, rfl, rfl, .inl ⟨rfl, nr_one rfl⟩⟩, trivial⟩
      · replace h := of_bif_f h c18
        refine awp_skip ?_
        refine then_norm ?_
        refine awp_seq ?_
        refine awp_go hmix ?_
        refine go_run' ttok 2 rfl ?_
        refine go_nil nd ?_
        refine then_norm ?_
        refine awp_freezeM [] [1000] [(12, some ⟨3, 1, l.map I⟩)] [(1000, some 1000)] [(8, (encL I l))] [] rfl rfl rfl rfl rfl ⟨rfl, by decide, trivial⟩ ⟨(wkP_lend rfl (by first | rfl | simp [setI]) (fun _ => rfl)), trivial⟩ trivial ?_
        refine awp_ret ?_
        have e20 := of_some h
        subst e20
        refine ret_ret ?_
        exact finB [(1000, some 1000)] ttok rfl rfl rfl rfl (wkP_refl _ rfl) ⟨⟨_, rfl, rfl, rfl, .inl ⟨rfl, nr_one rfl⟩⟩, trivial⟩
noncomputable def wire_Reader__Ints_cs1 (N : Nat) (vr : Twire_Reader) (low : Int) (high : Int) (cv : (Int × Int × Int)) (vat1 : Int) (e1 : Int) (l1 : (List Int)) (i : Int) : Option ((Int × Int × (List Int) × Int) ⊕ (Int × Int × (List Int))) :=
  (bif (decide (i < cv.1)) then (bif (e1 == 0) then (Option.bind ((wire_Reader__signed_c N) vr vat1 low high) (fun sv => (Option.bind (appO 8 l1 ([sv.1])) (fun l2 => some (Sum.inl (sv.2.1, sv.2.2, l2, (WU64 (i + 1)))))))) else some (Sum.inr (vat1, e1, l1))) else some (Sum.inr (vat1, e1, l1)))
theorem wire_Reader__Ints_cs1_le (N : Nat) (vr : Twire_Reader) (low : Int) (high : Int) (cv : (Int × Int × Int)) (vat1 : Int) (e1 : Int) (l1 : (List Int)) (i : Int) : OLe (wire_Reader__Ints_cs1 N vr low high cv vat1 e1 l1 i) (wire_Reader__Ints_s1 vr low high cv vat1 e1 l1 i) := by
  unfold wire_Reader__Ints_cs1 wire_Reader__Ints_s1
  repeat' (first | exact ole_rfl | exact wire_Reader__counted_le _ _ _ _ | exact wire_Reader__signed_le _ _ _ _ _ | refine ole_bif ?_ ?_ | refine ole_bind ?_ (fun _ => ?_) | refine ole_let (fun _ => ?_) | refine ole_map ?_ | refine ole_elim (fun _ => ?_) (fun _ => ?_) | refine ole_loop (fun _ => ?_))
noncomputable def wire_Reader__Ints_c (N : Nat) (vr : Twire_Reader) (most : Int) (low : Int) (high : Int) : Option ((List Int) × Twire_Reader) :=
  (bif (wire_Reader__stopped_g vr) then some ([], vr) else (Option.bind ((wire_Reader__counted_c N) vr vr.at_ most) (fun cv => (Option.bind ((iterX N (fun q => wire_Reader__Ints_cs1 N vr low high cv q.1 q.2.1 q.2.2.1 q.2.2.2) (cv.2.1, cv.2.2, [], 0)) : Option (Int × Int × (List Int))) (fun w1 => (letB (wire_Reader__done_g vr w1.1 w1.2.1) (fun dv => (bif (w1.2.1 != 0) then some ([], dv) else some (w1.2.2, dv)))))))))
theorem wire_Reader__Ints_le (N : Nat) (vr : Twire_Reader) (most : Int) (low : Int) (high : Int) : OLe (wire_Reader__Ints_c N vr most low high) (wire_Reader__Ints_g vr most low high) := by
  unfold wire_Reader__Ints_c wire_Reader__Ints_g
  repeat' (first | exact ole_rfl | exact wire_Reader__counted_le _ _ _ _ | exact wire_Reader__signed_le _ _ _ _ _ | exact wire_Reader__Ints_cs1_le _ _ _ _ _ _ _ _ _ | refine ole_bif ?_ ?_ | refine ole_bind ?_ (fun _ => ?_) | refine ole_let (fun _ => ?_) | refine ole_map ?_ | refine ole_elim (fun _ => ?_) (fun _ => ?_) | refine ole_loop (fun _ => ?_))

/-- (*sawmill/wire.Reader).Err -/
noncomputable def wire_Reader__Err_g (vr : Twire_Reader) : Int :=
  vr.e
theorem wire_Reader__Err_w (vr : Twire_Reader) (r : Int) (h : wire_Reader__Err_g vr = r) : Holds Try.prog 80 [(.ref 1000 0 0)] [(1000, some ⟨106, 3, [(encTwire_Reader vr)]⟩)] (I r) [(1000, some ⟨106, 3, [(encTwire_Reader vr)]⟩)] := by
  unfold wire_Reader__Err_g at h
  refine holds_fn Try.func80 rfl Try.ntmps80 rfl rfl rfl (fun lim => ?_)
  refine awp_seq ?_
  refine awp_go hmix ?_
  refine go_run' ttok 1 rfl ?_
  refine go_nil nd ?_
  refine then_norm ?_
  refine awp_seq ?_
  refine awp_seq ?_
  refine awp_go hmix ?_
  refine go_run' ttok 1 rfl ?_
  refine go_step rfl (as_refNil (.inl ⟨rfl, rfl⟩) rfl Try.underlying69 rfl rfl) rfl rfl rfl ?_
  refine go_nil nd ?_
  refine then_norm ?_
  refine awp_cond rfl (fun h => by cases h) (fun tt0 => ?_)
  clear tt0
  refine awp_skip ?_
  refine then_norm ?_
  refine awp_seq ?_
  refine awp_go hmix ?_
  refine go_run' ttok 1 rfl ?_
  refine go_step rfl (as_nilCheck rfl rfl) rfl rfl rfl ?_
  refine go_run' ttok 3 rfl ?_
  refine go_nil nd ?_
  refine then_norm ?_
  refine awp_ret ?_
  have e1 := h
  subst e1
  refine ret_ret ?_
  exact finB [(1000, some 1000)] ttok rfl rfl rfl rfl (wkP_refl _ rfl) ⟨⟨_, rfl, rfl, rfl, .inl ⟨rfl, nr_one rfl⟩⟩, trivial⟩

/-- (*sawmill/wire.Reader).Left -/
noncomputable def wire_Reader__Left_g (vr : Twire_Reader) : Int :=
  (W64 (((vr.s.size : Nat) : Int) - vr.at_))
theorem wire_Reader__Left_w (vr : Twire_Reader) (r : Int) (h : wire_Reader__Left_g vr = r) : Holds Try.prog 81 [(.ref 1000 0 0)] [(1000, some ⟨106, 3, [(encTwire_Reader vr)]⟩)] (I r) [(1000, some ⟨106, 3, [(encTwire_Reader vr)]⟩)] := by
  unfold wire_Reader__Left_g at h
  refine holds_fn Try.func81 rfl Try.ntmps81 rfl rfl rfl (fun lim => ?_)
  refine awp_seq ?_
  refine awp_go hmix ?_
  refine go_run' ttok 1 rfl ?_
  refine go_nil nd ?_
  refine then_norm ?_
  refine awp_seq ?_
  refine awp_seq ?_
  refine awp_go hmix ?_
  refine go_run' ttok 1 rfl ?_
  refine go_step rfl (as_refNil (.inl ⟨rfl, rfl⟩) rfl Try.underlying69 rfl rfl) rfl rfl rfl ?_
  refine go_nil nd ?_
  refine then_norm ?_
  refine awp_cond rfl (fun h => by cases h) (fun tt0 => ?_)
  clear tt0
  refine awp_skip ?_
  refine then_norm ?_
  refine awp_seq ?_
  refine awp_go hmix ?_
  refine go_run' ttok 1 rfl ?_
  refine go_step rfl (as_nilCheck rfl rfl) rfl rfl rfl ?_
  refine go_run' ttok 4 rfl ?_
  refine go_step rfl (as_nilCheck rfl rfl) rfl rfl rfl ?_
  refine go_run' ttok 4 rfl ?_
  refine go_nil (fun _ => by kernel_rfl) ?_
  refine then_norm ?_
  refine awp_ret ?_
  have e1 := h
  subst e1
  refine ret_ret ?_
  exact finB [(1000, some 1000)] ttok rfl rfl rfl rfl (wkP_refl _ rfl) ⟨⟨_, rfl, rfl, rfl, .inl ⟨rfl, nr_one rfl⟩⟩, trivial⟩

/-- (*sawmill/wire.Reader).End -/
noncomputable def wire_Reader__End_g (vr : Twire_Reader) : Int :=
  (bif ((wire_Reader__Err_g vr) != 0) then (wire_Reader__Err_g vr) else (bif (decide (0 < (wire_Reader__Left_g vr))) then 4 else 0))
theorem wire_Reader__End_w (vr : Twire_Reader) (r : Int) (h : wire_Reader__End_g vr = r) : Holds Try.prog 49 [(.ref 1000 0 0)] [(1000, some ⟨106, 3, [(encTwire_Reader vr)]⟩)] (I r) [(1000, some ⟨106, 3, [(encTwire_Reader vr)]⟩)] := by
  unfold wire_Reader__End_g at h
  refine holds_fn Try.func49 rfl Try.ntmps49 rfl rfl rfl (fun lim => ?_)
  refine awp_seq ?_
  refine awp_go hmix ?_
  refine go_run' ttok 1 rfl ?_
  refine go_nil nd ?_
  refine then_norm ?_
  refine awp_seq ?_
  refine awp_seq ?_
  refine awp_go hmix ?_
  refine go_run' ttok 1 rfl ?_
  refine go_callM (I (wire_Reader__Err_g vr)) [] [(1000, some ⟨106, 3, [(.agg [(S vr.s), (I vr.at_), (I vr.e)])]⟩)] [(1000, some 1000)] [(1000, some 1000)] fn80 (wire_Reader__Err_w vr _ rfl) rfl rfl rfl rfl rfl trivial ⟨⟨rfl, rfl, rfl⟩, trivial⟩ rfl rfl ⟨⟨_, rfl, rfl, rfl, .inl ⟨rfl, nr_one rfl⟩⟩, trivial⟩ rfl rfl ⟨⟨_, rfl, rfl, rfl, .inl ⟨rfl, nr_one rfl⟩⟩, trivial⟩ (wkP_refl _ rfl) rfl (fun h => absurd rfl h) rfl rfl rfl ?_
  refine go_run' ttok 1 rfl ?_
  refine go_nil nd ?_
  refine then_norm ?_
  refine awp_seq ?_
  refine awp_go hmix ?_
  refine go_run' ttok 2 rfl ?_
  refine go_nil nd ?_
  refine then_norm ?_
  refine awp_cond (b := ((wire_Reader__Err_g vr) != 0)) rfl (fun c1 => ?_) (fun c1 => ?_)
  · replace h := of_bif_t h c1
    refine awp_seq ?_
    refine awp_go hmix ?_
    refine go_run' ttok 2 rfl ?_
    refine go_nil nd ?_
    refine then_norm ?_
    refine awp_ret ?_
    refine then_ret ?_
    have e2 := h
    subst e2
    refine ret_ret ?_
    exact finB [(1000, some 1000)] ttok rfl rfl rfl rfl (wkP_refl _ rfl) ⟨⟨_, rfl, rfl, rfl, .inl ⟨rfl, nr_one rfl⟩⟩, trivial⟩
  · replace h := of_bif_f h c1
    refine awp_skip ?_
    refine then_norm ?_
    refine awp_seq ?_
    refine awp_seq ?_
    refine awp_go hmix ?_
    refine go_run' ttok 1 rfl ?_
    refine go_callM (I (wire_Reader__Left_g vr)) [] [(1000, some ⟨106, 3, [(.agg [(S vr.s), (I vr.at_), (I vr.e)])]⟩)] [(1000, some 1000)] [(1000, some 1000)] fn81 (wire_Reader__Left_w vr _ rfl) rfl rfl rfl rfl rfl trivial ⟨⟨rfl, rfl, rfl⟩, trivial⟩ rfl rfl ⟨⟨_, rfl, rfl, rfl, .inl ⟨rfl, nr_one rfl⟩⟩, trivial⟩ rfl rfl ⟨⟨_, rfl, rfl, rfl, .inl ⟨rfl, nr_one rfl⟩⟩, trivial⟩ (wkP_refl _ rfl) rfl (fun h => absurd rfl h) rfl rfl rfl ?_
    refine go_run' ttok 1 rfl ?_
    refine go_nil nd ?_
    refine then_norm ?_
    refine awp_cond (b := (decide (0 < (wire_Reader__Left_g vr)))) rfl (fun c3 => ?_) (fun c3 => ?_)
    · replace h := of_bif_t h c3
      refine awp_seq ?_
      refine awp_go hmix ?_
      refine go_run' ttok 1 rfl ?_
      refine go_nil nd ?_
      refine then_norm ?_
      refine awp_ret ?_
      refine then_ret ?_
      have e4 := h
      subst e4
      refine ret_ret ?_
      exact finB [(1000, some 1000)] ttok rfl rfl rfl rfl (wkP_refl _ rfl) ⟨⟨_, rfl, rfl, rfl, .inl ⟨rfl, nr_one rfl⟩⟩, trivial⟩
    · replace h := of_bif_f h c3
      refine awp_skip ?_
      refine then_norm ?_
      refine awp_seq ?_
      refine awp_go hmix ?_
      refine go_run' ttok 1 rfl ?_
      refine go_nil nd ?_
      refine then_norm ?_
      refine awp_ret ?_
      have e5 := h
      subst e5
      refine ret_ret ?_
      exact finB [(1000, some 1000)] ttok rfl rfl rfl rfl (wkP_refl _ rfl) ⟨⟨_, rfl, rfl, rfl, .inl ⟨rfl, nr_one rfl⟩⟩, trivial⟩

/-- sawmill/order.Decode -/
noncomputable def order_Decode_g (s : ByteArray) : Option (TOrder × Int) :=
  (letB (wire_NewReader_g s) (fun nv => (Option.bind (wire_Reader__Text_g nv 16) (fun tv => (Option.bind (wire_Reader__Text_g tv.2 16) (fun tv1 => (Option.bind (wire_Reader__Ints_g tv1.2 9 (-1099511627776) 1099511627776) (fun iv => (bif ((wire_Reader__End_g iv.2) != 0) then some ((⟨(⟨#[]⟩ : ByteArray), (⟨#[]⟩ : ByteArray), 0, 0, 0, 0, 0, 0, 0, 0, 0⟩ : TOrder), 5) else (bif (((iv.1.length : Nat) : Int) != 9) then some ((⟨(⟨#[]⟩ : ByteArray), (⟨#[]⟩ : ByteArray), 0, 0, 0, 0, 0, 0, 0, 0, 0⟩ : TOrder), 5) else (Option.bind (getI iv.1 0) (fun e => (Option.bind (getI iv.1 1) (fun e1 => (Option.bind (getI iv.1 2) (fun e2 => (Option.bind (getI iv.1 3) (fun e3 => (Option.bind (getI iv.1 4) (fun e4 => (Option.bind (getI iv.1 5) (fun e5 => (Option.bind (getI iv.1 6) (fun e6 => (Option.bind (getI iv.1 7) (fun e7 => (Option.bind (getI iv.1 8) (fun e8 => some ((⟨tv.1, tv1.1, e, e1, e2, e3, e4, e5, e6, e7, e8⟩ : TOrder), 0)))))))))))))))))))))))))))))
theorem order_Decode_w (s : ByteArray) (r : (TOrder × Int)) (h : order_Decode_g s = some r) : Holds Try.prog 24 [(S s)] [] (.tup [(encTOrder r.1), (I r.2)]) [] := by
  unfold order_Decode_g at h
  refine holds_fn Try.func24 rfl Try.ntmps24 rfl rfl rfl (fun lim => ?_)
  refine awp_seq ?_
  refine awp_go hmix ?_
  refine go_run' ttok 2 rfl ?_
  refine go_nil nd ?_
  refine then_norm ?_
  refine awp_seq ?_
  refine awp_go hmix ?_
  refine go_run' ttok 1 rfl ?_
  obtain ⟨nv, hv1, h⟩ := of_let h
  refine go_callM (.ref 9 0 0) [] [(9, some ⟨106, 3, [(.agg [(S nv.s), (I nv.at_), (I nv.e)])]⟩)] [] [(9, some 999)] fn46 (wire_NewReader_w s nv hv1) rfl rfl rfl rfl rfl trivial ⟨(wkP_refl _ rfl), trivial⟩ rfl rfl trivial rfl rfl ⟨⟨_, rfl, rfl, rfl, .inl ⟨rfl, nr_one rfl⟩⟩, trivial⟩ ⟨rfl, rfl, rfl⟩ rfl (fun h => absurd rfl h) rfl rfl rfl ?_
  refine go_run' ttok 1 rfl ?_
  refine go_nil nd ?_
  refine then_norm ?_
  refine awp_seq ?_
  refine awp_go hmix ?_
  refine go_run' ttok 1 rfl ?_
  obtain ⟨tv, hv2, h⟩ := of_obind h
  refine go_callM (S tv.1) [] [(9, some ⟨106, 3, [(.agg [(S tv.2.s), (I tv.2.at_), (I tv.2.e)])]⟩)] [(1000, some 9)] [(9, some 1000)] fn47 (wire_Reader__Text_w nv 16 tv hv2) rfl rfl rfl rfl rfl trivial ⟨⟨rfl, rfl, rfl⟩, (wkP_refl _ rfl), trivial⟩ rfl rfl ⟨⟨_, rfl, rfl, rfl, .inl ⟨rfl, nr_one rfl⟩⟩, trivial⟩ rfl rfl ⟨⟨_, rfl, rfl, rfl, .inl ⟨rfl, nr_one rfl⟩⟩, trivial⟩ (wkP_refl _ rfl) rfl (fun h => absurd rfl h) rfl rfl rfl ?_
  refine go_run' ttok 1 rfl ?_
  refine go_nil nd ?_
  refine then_norm ?_
  refine awp_seq ?_
  refine awp_go hmix ?_
  refine go_run' ttok 1 rfl ?_
  obtain ⟨tv1, hv3, h⟩ := of_obind h
  refine go_callM (S tv1.1) [] [(9, some ⟨106, 3, [(.agg [(S tv1.2.s), (I tv1.2.at_), (I tv1.2.e)])]⟩)] [(1000, some 9)] [(9, some 1000)] fn47 (wire_Reader__Text_w tv.2 16 tv1 hv3) rfl rfl rfl rfl rfl trivial ⟨⟨rfl, rfl, rfl⟩, (wkP_refl _ rfl), trivial⟩ rfl rfl ⟨⟨_, rfl, rfl, rfl, .inl ⟨rfl, nr_one rfl⟩⟩, trivial⟩ rfl rfl ⟨⟨_, rfl, rfl, rfl, .inl ⟨rfl, nr_one rfl⟩⟩, trivial⟩ (wkP_refl _ rfl) rfl (fun h => absurd rfl h) rfl rfl rfl ?_
  refine go_run' ttok 1 rfl ?_
  refine go_nil nd ?_
  refine then_norm ?_
  refine awp_seq ?_
  refine awp_go hmix ?_
  refine go_run' ttok 1 rfl ?_
  obtain ⟨iv, hv4, h⟩ := of_obind h
  refine go_callM (encL I iv.1) [] [(9, some ⟨106, 3, [(.agg [(S iv.2.s), (I iv.2.at_), (I iv.2.e)])]⟩)] [(1000, some 9)] [(9, some 1000)] fn48 (wire_Reader__Ints_w tv1.2 9 (-1099511627776) 1099511627776 iv hv4) rfl rfl rfl rfl rfl trivial ⟨⟨rfl, rfl, rfl⟩, (wkP_refl _ rfl), (wkP_refl _ rfl), (wkP_refl _ rfl), trivial⟩ rfl rfl ⟨⟨_, rfl, rfl, rfl, .inl ⟨rfl, nr_one rfl⟩⟩, trivial⟩ rfl rfl ⟨⟨_, rfl, rfl, rfl, .inl ⟨rfl, nr_one rfl⟩⟩, trivial⟩ (wkP_refl _ rfl) rfl (fun h => absurd rfl h) rfl rfl rfl ?_
  refine go_run' ttok 1 rfl ?_
  refine go_nil nd ?_
  refine then_norm ?_
  refine awp_seq ?_
  refine awp_seq ?_
  refine awp_go hmix ?_
  refine go_run' ttok 1 rfl ?_
  refine go_callM (I (wire_Reader__End_g iv.2)) [] [(9, some ⟨106, 3, [(.agg [(S iv.2.s), (I iv.2.at_), (I iv.2.e)])]⟩)] [(1000, some 9)] [(9, some 1000)] fn49 (wire_Reader__End_w iv.2 _ rfl) rfl rfl rfl rfl rfl trivial ⟨⟨rfl, rfl, rfl⟩, trivial⟩ rfl rfl ⟨⟨_, rfl, rfl, rfl, .inl ⟨rfl, nr_one rfl⟩⟩, trivial⟩ rfl rfl ⟨⟨_, rfl, rfl, rfl, .inl ⟨rfl, nr_one rfl⟩⟩, trivial⟩ (wkP_refl _ rfl) rfl (fun h => absurd rfl h) rfl rfl rfl ?_
  refine go_run' ttok 2 rfl ?_
  refine go_gcase rfl rfl rfl (fun g5 => ?_) (fun g5 => ?_)
  · rw [g5]
    replace h := of_bif_t h g5
    refine go_run' ttok 4 rfl ?_
    refine go_nil nd ?_
    refine then_norm ?_
    refine awp_cond rfl (fun tt0 => ?_) (fun h => by cases h)
    clear tt0
    refine awp_seq ?_
    refine awp_go hmix ?_
    refine go_run' ttok 3 rfl ?_
    refine go_nil nd ?_
    refine then_norm ?_
    refine awp_ret ?_
    refine then_ret ?_
    have e6 := of_some h
    subst e6
    refine ret_ret ?_
    refine fin0 ttok rfl rfl ?_
    exact wkP_refl _ rfl
  · rw [g5]
    replace h := of_bif_f h g5
    refine go_run' ttok 1 rfl ?_
    refine go_lenT I iv.1 ttok rfl rfl rfl rfl rfl rfl ?_
    refine go_run' ttok 2 rfl ?_
    refine go_nil nd ?_
    refine then_norm ?_
    refine awp_cond (b := (((iv.1.length : Nat) : Int) != 9)) rfl (fun c7 => ?_) (fun c7 => ?_)
    · replace h := of_bif_t h c7
      refine awp_seq ?_
      refine awp_go hmix ?_
      refine go_run' ttok 3 rfl ?_
      refine go_nil nd ?_
      refine then_norm ?_
      refine awp_ret ?_
      refine then_ret ?_
      have e8 := of_some h
      subst e8
      refine ret_ret ?_
      refine fin0 ttok rfl rfl ?_
      exact wkP_refl _ rfl
    · replace h := of_bif_f h c7
      refine awp_skip ?_
      refine then_norm ?_
      refine awp_seq ?_
      refine awp_go hmix ?_
      refine go_run' ttok 3 rfl ?_
      obtain ⟨e, hv9, h⟩ := of_obind h
      refine go_indexT I iv.1 0 e hv9 ttok rfl rfl rfl rfl rfl rfl rfl rfl rfl ?_
      refine go_run' ttok 2 rfl ?_
      obtain ⟨e1, hv10, h⟩ := of_obind h
      refine go_indexT I iv.1 1 e1 hv10 ttok rfl rfl rfl rfl rfl rfl rfl rfl rfl ?_
      refine go_run' ttok 2 rfl ?_
      obtain ⟨e2, hv11, h⟩ := of_obind h
      refine go_indexT I iv.1 2 e2 hv11 ttok rfl rfl rfl rfl rfl rfl rfl rfl rfl ?_
      refine go_run' ttok 2 rfl ?_
      obtain ⟨e3, hv12, h⟩ := of_obind h
      refine go_indexT I iv.1 3 e3 hv12 ttok rfl rfl rfl rfl rfl rfl rfl rfl rfl ?_
      refine go_run' ttok 2 rfl ?_
      obtain ⟨e4, hv13, h⟩ := of_obind h
      refine go_indexT I iv.1 4 e4 hv13 ttok rfl rfl rfl rfl rfl rfl rfl rfl rfl ?_
      refine go_run' ttok 2 rfl ?_
      obtain ⟨e5, hv14, h⟩ := of_obind h
      refine go_indexT I iv.1 5 e5 hv14 ttok rfl rfl rfl rfl rfl rfl rfl rfl rfl ?_
      refine go_run' ttok 2 rfl ?_
      obtain ⟨e6, hv15, h⟩ := of_obind h
      refine go_indexT I iv.1 6 e6 hv15 ttok rfl rfl rfl rfl rfl rfl rfl rfl rfl ?_
      refine go_run' ttok 2 rfl ?_
      obtain ⟨e7, hv16, h⟩ := of_obind h
      refine go_indexT I iv.1 7 e7 hv16 ttok rfl rfl rfl rfl rfl rfl rfl rfl rfl ?_
      refine go_run' ttok 2 rfl ?_
      obtain ⟨e8, hv17, h⟩ := of_obind h
      refine go_indexT I iv.1 8 e8 hv17 ttok rfl rfl rfl rfl rfl rfl rfl rfl rfl ?_
      refine go_run' ttok 4 rfl ?_
      refine go_nil (fun _ => by kernel_rfl) ?_
      refine then_norm ?_
      refine awp_ret ?_
      have e18 := of_some h
      subst e18
      refine ret_ret ?_
      refine fin0 ttok rfl rfl ?_
      exact wkP_refl _ rfl
noncomputable def order_Decode_c (N : Nat) (s : ByteArray) : Option (TOrder × Int) :=
  (letB (wire_NewReader_g s) (fun nv => (Option.bind ((wire_Reader__Text_c N) nv 16) (fun tv => (Option.bind ((wire_Reader__Text_c N) tv.2 16) (fun tv1 => (Option.bind ((wire_Reader__Ints_c N) tv1.2 9 (-1099511627776) 1099511627776) (fun iv => (bif ((wire_Reader__End_g iv.2) != 0) then some ((⟨(⟨#[]⟩ : ByteArray), (⟨#[]⟩ : ByteArray), 0, 0, 0, 0, 0, 0, 0, 0, 0⟩ : TOrder), 5) else (bif (((iv.1.length : Nat) : Int) != 9) then some ((⟨(⟨#[]⟩ : ByteArray), (⟨#[]⟩ : ByteArray), 0, 0, 0, 0, 0, 0, 0, 0, 0⟩ : TOrder), 5) else (Option.bind (getI iv.1 0) (fun e => (Option.bind (getI iv.1 1) (fun e1 => (Option.bind (getI iv.1 2) (fun e2 => (Option.bind (getI iv.1 3) (fun e3 => (Option.bind (getI iv.1 4) (fun e4 => (Option.bind (getI iv.1 5) (fun e5 => (Option.bind (getI iv.1 6) (fun e6 => (Option.bind (getI iv.1 7) (fun e7 => (Option.bind (getI iv.1 8) (fun e8 => some ((⟨tv.1, tv1.1, e, e1, e2, e3, e4, e5, e6, e7, e8⟩ : TOrder), 0)))))))))))))))))))))))))))))
theorem order_Decode_le (N : Nat) (s : ByteArray) : OLe (order_Decode_c N s) (order_Decode_g s) := by
  unfold order_Decode_c order_Decode_g
  repeat' (first | exact ole_rfl | exact wire_Reader__Text_le _ _ _ | exact wire_Reader__Ints_le _ _ _ _ _ | refine ole_bif ?_ ?_ | refine ole_bind ?_ (fun _ => ?_) | refine ole_let (fun _ => ?_) | refine ole_map ?_ | refine ole_elim (fun _ => ?_) (fun _ => ?_) | refine ole_loop (fun _ => ?_))

/-- sawmill/board.isAlong -/
noncomputable def board_isAlong_g (vz : Sp) : Bool :=
  (bif (decide (0 ≤ vz.a)) then (bif (decide (vz.b ≤ 20000)) then (decide (vz.a < vz.b)) else false) else false)
theorem board_isAlong_w (vz : Sp) (r : Bool) (h : board_isAlong_g vz = r) : Holds Try.prog 64 [(encSp vz)] [] (B r) [] := by
  unfold board_isAlong_g at h
  refine holds_fn Try.func64 rfl Try.ntmps64 rfl rfl rfl (fun lim => ?_)
  refine awp_seq ?_
  refine awp_go hmix ?_
  refine go_run' ttok 2 rfl ?_
  refine go_nil nd ?_
  refine then_norm ?_
  refine awp_seq ?_
  refine awp_go hmix ?_
  refine go_run' ttok 4 rfl ?_
  refine go_gcase rfl rfl rfl (fun g1 => ?_) (fun g1 => ?_)
  · rw [g1]
    replace h := of_bif_t h g1
    refine go_run' ttok 5 rfl ?_
    refine go_gcase rfl rfl rfl (fun g2 => ?_) (fun g2 => ?_)
    · rw [g2]
      replace h := of_bif_t h g2
      refine go_run' ttok 7 rfl ?_
      refine go_nil nd ?_
      refine then_norm ?_
      refine awp_ret ?_
      have e3 := h
      subst e3
      refine ret_ret ?_
      refine fin0 ttok rfl rfl ?_
      exact (wkP_refl _ rfl)
    · rw [g2]
      replace h := of_bif_f h g2
      refine go_run' ttok 7 rfl ?_
      refine go_nil nd ?_
      refine then_norm ?_
      refine awp_ret ?_
      have e4 := h
      subst e4
      refine ret_ret ?_
      refine fin0 ttok rfl rfl ?_
      exact (wkP_refl _ rfl)
  · rw [g1]
    replace h := of_bif_f h g1
    refine go_run' ttok 12 rfl ?_
    refine go_nil nd ?_
    refine then_norm ?_
    refine awp_ret ?_
    have e5 := h
    subst e5
    refine ret_ret ?_
    refine fin0 ttok rfl rfl ?_
    exact (wkP_refl _ rfl)

/-- sawmill/board.length -/
noncomputable def board_length_g (s : Sp) : Int :=
  (W64 (s.b - s.a))
theorem board_length_w (s : Sp) (r : Int) (h : board_length_g s = r) : Holds Try.prog 65 [(encSp s)] [] (I r) [] := by
  unfold board_length_g at h
  refine holds_fn Try.func65 rfl Try.ntmps65 rfl rfl rfl (fun lim => ?_)
  refine awp_seq ?_
  refine awp_go hmix ?_
  refine go_run' ttok 2 rfl ?_
  refine go_nil nd ?_
  refine then_norm ?_
  refine awp_seq ?_
  refine awp_go hmix ?_
  refine go_run' ttok 6 rfl ?_
  refine go_nil nd ?_
  refine then_norm ?_
  refine awp_ret ?_
  have e1 := h
  subst e1
  refine ret_ret ?_
  refine fin0 ttok rfl rfl ?_
  exact (wkP_refl _ rfl)

/-- sawmill/board.Length -/
noncomputable def board_Length_g (b : TBoard) : Int :=
  (bif (!(board_isAlong_g b.Box.z)) then 0 else (board_length_g b.Box.z))
theorem board_Length_w (b : TBoard) (r : Int) (h : board_Length_g b = r) : Holds Try.prog 37 [(encTBoard b)] [] (I r) [] := by
  unfold board_Length_g at h
  refine holds_fn Try.func37 rfl Try.ntmps37 rfl rfl rfl (fun lim => ?_)
  refine awp_seq ?_
  refine awp_go hmix ?_
  refine go_run' ttok 2 rfl ?_
  refine go_nil nd ?_
  refine then_norm ?_
  refine awp_seq ?_
  refine awp_seq ?_
  refine awp_go hmix ?_
  refine go_run' ttok 3 rfl ?_
  refine go_call fn64 (board_isAlong_w b.Box.z _ rfl) rfl rfl rfl rfl rfl rfl rfl ?_
  refine go_run' ttok 1 rfl ?_
  refine go_nil nd ?_
  refine then_norm ?_
  refine awp_cond (b := (!(board_isAlong_g b.Box.z))) rfl (fun c1 => ?_) (fun c1 => ?_)
  · replace h := of_bif_t h c1
    refine awp_seq ?_
    refine awp_go hmix ?_
    refine go_run' ttok 1 rfl ?_
    refine go_nil nd ?_
    refine then_norm ?_
    refine awp_ret ?_
    refine then_ret ?_
    have e2 := h
    subst e2
    refine ret_ret ?_
    refine fin0 ttok rfl rfl ?_
    exact (wkP_refl _ rfl)
  · replace h := of_bif_f h c1
    refine awp_skip ?_
    refine then_norm ?_
    refine awp_seq ?_
    refine awp_go hmix ?_
    refine go_run' ttok 3 rfl ?_
    refine go_call fn65 (board_length_w b.Box.z _ rfl) rfl rfl rfl rfl rfl rfl rfl ?_
    refine go_run' ttok 1 rfl ?_
    refine go_nil nd ?_
    refine then_norm ?_
    refine awp_ret ?_
    have e3 := h
    subst e3
    refine ret_ret ?_
    refine fin0 ttok rfl rfl ?_
    exact (wkP_refl _ rfl)

/-- sawmill/moist.Check -/
noncomputable def moist_Check_g (c : TCell) : Int :=
  (bif (decide (c.Surf < 0)) then 25 else (bif (decide (20000 < c.Surf)) then 25 else (bif (decide (c.Core < 0)) then 25 else (bif (decide (20000 < c.Core)) then 25 else (bif (decide (c.Stress < 0)) then 9 else (bif (decide (1099511627776 < c.Stress)) then 9 else 0))))))
theorem moist_Check_w (c : TCell) (r : Int) (h : moist_Check_g c = r) : Holds Try.prog 66 [(encTCell c)] [] (I r) [] := by
  unfold moist_Check_g at h
  refine holds_fn Try.func66 rfl Try.ntmps66 rfl rfl rfl (fun lim => ?_)
  refine awp_seq ?_
  refine awp_go hmix ?_
  refine go_run' ttok 2 rfl ?_
  refine go_nil nd ?_
  refine then_norm ?_
  refine awp_seq ?_
  refine awp_seq ?_
  refine awp_go hmix ?_
  refine go_run' ttok 4 rfl ?_
  refine go_gcase rfl rfl rfl (fun g1 => ?_) (fun g1 => ?_)
  · rw [g1]
    replace h := of_bif_t h g1
    refine go_run' ttok 14 rfl ?_
    refine go_nil nd ?_
    refine then_norm ?_
    refine awp_cond rfl (fun tt0 => ?_) (fun h => by cases h)
    clear tt0
    refine awp_seq ?_
    refine awp_go hmix ?_
    refine go_run' ttok 1 rfl ?_
    refine go_nil nd ?_
    refine then_norm ?_
    refine awp_ret ?_
    refine then_ret ?_
    have e2 := h
    subst e2
    refine ret_ret ?_
    refine fin0 ttok rfl rfl ?_
    exact (wkP_refl _ rfl)
  · rw [g1]
    replace h := of_bif_f h g1
    refine go_run' ttok 5 rfl ?_
    refine go_gcase rfl rfl rfl (fun g3 => ?_) (fun g3 => ?_)
    · rw [g3]
      replace h := of_bif_t h g3
      refine go_run' ttok 9 rfl ?_
      refine go_nil nd ?_
      refine then_norm ?_
      refine awp_cond rfl (fun tt0 => ?_) (fun h => by cases h)
      clear tt0
      refine awp_seq ?_
      refine awp_go hmix ?_
      refine go_run' ttok 1 rfl ?_
      refine go_nil nd ?_
      refine then_norm ?_
      refine awp_ret ?_
      refine then_ret ?_
      have e4 := h
      subst e4
      refine ret_ret ?_
      refine fin0 ttok rfl rfl ?_
      exact (wkP_refl _ rfl)
    · rw [g3]
      replace h := of_bif_f h g3
      refine go_run' ttok 5 rfl ?_
      refine go_gcase rfl rfl rfl (fun g5 => ?_) (fun g5 => ?_)
      · rw [g5]
        replace h := of_bif_t h g5
        refine go_run' ttok 4 rfl ?_
        refine go_nil nd ?_
        refine then_norm ?_
        refine awp_cond rfl (fun tt0 => ?_) (fun h => by cases h)
        clear tt0
        refine awp_seq ?_
        refine awp_go hmix ?_
        refine go_run' ttok 1 rfl ?_
        refine go_nil nd ?_
        refine then_norm ?_
        refine awp_ret ?_
        refine then_ret ?_
        have e6 := h
        subst e6
        refine ret_ret ?_
        refine fin0 ttok rfl rfl ?_
        exact (wkP_refl _ rfl)
      · rw [g5]
        replace h := of_bif_f h g5
        refine go_run' ttok 4 rfl ?_
        refine go_nil nd ?_
        refine then_norm ?_
        refine awp_cond (b := (decide (20000 < c.Core))) rfl (fun c7 => ?_) (fun c7 => ?_)
        · replace h := of_bif_t h c7
          refine awp_seq ?_
          refine awp_go hmix ?_
          refine go_run' ttok 1 rfl ?_
          refine go_nil nd ?_
          refine then_norm ?_
          refine awp_ret ?_
          refine then_ret ?_
          have e8 := h
          subst e8
          refine ret_ret ?_
          refine fin0 ttok rfl rfl ?_
          exact (wkP_refl _ rfl)
        · replace h := of_bif_f h c7
          refine awp_skip ?_
          refine then_norm ?_
          refine awp_seq ?_
          refine awp_seq ?_
          refine awp_go hmix ?_
          refine go_run' ttok 4 rfl ?_
          refine go_gcase rfl rfl rfl (fun g9 => ?_) (fun g9 => ?_)
          · rw [g9]
            replace h := of_bif_t h g9
            refine go_run' ttok 4 rfl ?_
            refine go_nil nd ?_
            refine then_norm ?_
            refine awp_cond rfl (fun tt0 => ?_) (fun h => by cases h)
            clear tt0
            refine awp_seq ?_
            refine awp_go hmix ?_
            refine go_run' ttok 1 rfl ?_
            refine go_nil nd ?_
            refine then_norm ?_
            refine awp_ret ?_
            refine then_ret ?_
            have e10 := h
            subst e10
            refine ret_ret ?_
            refine fin0 ttok rfl rfl ?_
            exact (wkP_refl _ rfl)
          · rw [g9]
            replace h := of_bif_f h g9
            refine go_run' ttok 4 rfl ?_
            refine go_nil nd ?_
            refine then_norm ?_
            refine awp_cond (b := (decide (1099511627776 < c.Stress))) rfl (fun c11 => ?_) (fun c11 => ?_)
            · replace h := of_bif_t h c11
              refine awp_seq ?_
              refine awp_go hmix ?_
              refine go_run' ttok 1 rfl ?_
              refine go_nil nd ?_
              refine then_norm ?_
              refine awp_ret ?_
              refine then_ret ?_
              have e12 := h
              subst e12
              refine ret_ret ?_
              refine fin0 ttok rfl rfl ?_
              exact (wkP_refl _ rfl)
            · replace h := of_bif_f h c11
              refine awp_skip ?_
              refine then_norm ?_
              refine awp_seq ?_
              refine awp_go hmix ?_
              refine go_run' ttok 1 rfl ?_
              refine go_nil nd ?_
              refine then_norm ?_
              refine awp_ret ?_
              have e13 := h
              subst e13
              refine ret_ret ?_
              refine fin0 ttok rfl rfl ?_
              exact (wkP_refl _ rfl)

/-- sawmill/moist.Mean -/
noncomputable def moist_Mean_g (c : TCell) : Int :=
  (bif ((moist_Check_g c) != 0) then 0 else (W64 (Int.tdiv (W64 (c.Surf + (W64 (2 * c.Core)))) 3)))
theorem moist_Mean_w (c : TCell) (r : Int) (h : moist_Mean_g c = r) : Holds Try.prog 38 [(encTCell c)] [] (I r) [] := by
  unfold moist_Mean_g at h
  refine holds_fn Try.func38 rfl Try.ntmps38 rfl rfl rfl (fun lim => ?_)
  refine awp_seq ?_
  refine awp_go hmix ?_
  refine go_run' ttok 2 rfl ?_
  refine go_nil nd ?_
  refine then_norm ?_
  refine awp_seq ?_
  refine awp_seq ?_
  refine awp_go hmix ?_
  refine go_run' ttok 1 rfl ?_
  refine go_call fn66 (moist_Check_w c _ rfl) rfl rfl rfl rfl rfl rfl rfl ?_
  refine go_run' ttok 1 rfl ?_
  refine go_nil nd ?_
  refine then_norm ?_
  refine awp_cond (b := ((moist_Check_g c) != 0)) rfl (fun c1 => ?_) (fun c1 => ?_)
  · replace h := of_bif_t h c1
    refine awp_seq ?_
    refine awp_go hmix ?_
    refine go_run' ttok 1 rfl ?_
    refine go_nil nd ?_
    refine then_norm ?_
    refine awp_ret ?_
    refine then_ret ?_
    have e2 := h
    subst e2
    refine ret_ret ?_
    refine fin0 ttok rfl rfl ?_
    exact (wkP_refl _ rfl)
  · replace h := of_bif_f h c1
    refine awp_skip ?_
    refine then_norm ?_
    refine awp_seq ?_
    refine awp_go hmix ?_
    refine go_run' ttok 8 rfl ?_
    refine go_nil nd ?_
    refine then_norm ?_
    refine awp_ret ?_
    have e3 := h
    subst e3
    refine ret_ret ?_
    refine fin0 ttok rfl rfl ?_
    exact (wkP_refl _ rfl)

/-- sawmill/order.Fits -/
noncomputable def order_Fits_g (o : TOrder) (b : TBoard) : Int :=
  (bif (!(bEq b.Species o.Species)) then 24 else (bif (b.Product != o.Product) then 8 else (bif ((board_Length_g b) != o.Length) then 20 else (bif (!b.Dried) then 14 else (bif (decide (o.Moist < (moist_Mean_g b.Cell))) then 25 else (bif (decide (b.Grade < 1)) then 26 else (bif (decide (o.Grade < b.Grade)) then 26 else 0)))))))
theorem order_Fits_w (o : TOrder) (b : TBoard) (r : Int) (h : order_Fits_g o b = r) : Holds Try.prog 14 [(encTOrder o), (encTBoard b)] [] (I r) [] := by
  unfold order_Fits_g at h
  refine holds_fn Try.func14 rfl Try.ntmps14 rfl rfl rfl (fun lim => ?_)
  refine awp_seq ?_
  refine awp_go hmix ?_
  refine go_run' ttok 3 rfl ?_
  refine go_nil nd ?_
  refine then_norm ?_
  refine awp_seq ?_
  refine awp_block ?_
  refine awp_seq ?_
  refine awp_go hmix ?_
  refine go_run' ttok 4 rfl ?_
  refine go_neqS b.Species o.Species rfl rfl rfl rfl rfl ?_
  refine go_run' ttok 1 rfl ?_
  refine go_nil nd ?_
  refine then_norm ?_
  refine awp_cond (b := (!(bEq b.Species o.Species))) rfl (fun c1 => ?_) (fun c1 => ?_)
  · replace h := of_bif_t h c1
    refine awp_seq ?_
    refine awp_go hmix ?_
    refine go_run' ttok 1 rfl ?_
    refine go_nil nd ?_
    refine then_norm ?_
    refine awp_ret ?_
    refine block_ret ?_
    refine then_ret ?_
    have e2 := h
    subst e2
    refine ret_ret ?_
    refine fin0 ttok rfl rfl ?_
    exact (wkP_refl _ rfl)
  · replace h := of_bif_f h c1
    refine awp_seq ?_
    refine awp_go hmix ?_
    refine go_run' ttok 6 rfl ?_
    refine go_nil nd ?_
    refine then_norm ?_
    refine awp_cond (b := (b.Product != o.Product)) rfl (fun c3 => ?_) (fun c3 => ?_)
    · replace h := of_bif_t h c3
      refine awp_seq ?_
      refine awp_go hmix ?_
      refine go_run' ttok 1 rfl ?_
      refine go_nil nd ?_
      refine then_norm ?_
      refine awp_ret ?_
      refine block_ret ?_
      refine then_ret ?_
      have e4 := h
      subst e4
      refine ret_ret ?_
      refine fin0 ttok rfl rfl ?_
      exact (wkP_refl _ rfl)
    · replace h := of_bif_f h c3
      refine awp_seq ?_
      refine awp_go hmix ?_
      refine go_run' ttok 1 rfl ?_
      refine go_call fn37 (board_Length_w b _ rfl) rfl rfl rfl rfl rfl rfl rfl ?_
      refine go_run' ttok 4 rfl ?_
      refine go_nil (fun _ => by kernel_rfl) ?_
      refine then_norm ?_
      refine awp_cond (b := ((board_Length_g b) != o.Length)) rfl (fun c5 => ?_) (fun c5 => ?_)
      · replace h := of_bif_t h c5
        refine awp_seq ?_
        refine awp_go hmix ?_
        refine go_run' ttok 1 rfl ?_
        refine go_nil nd ?_
        refine then_norm ?_
        refine awp_ret ?_
        refine block_ret ?_
        refine then_ret ?_
        have e6 := h
        subst e6
        refine ret_ret ?_
        refine fin0 ttok rfl rfl ?_
        exact (wkP_refl _ rfl)
      · replace h := of_bif_f h c5
        refine awp_seq ?_
        refine awp_go hmix ?_
        refine go_run' ttok 4 rfl ?_
        refine go_nil nd ?_
        refine then_norm ?_
        refine awp_cond (b := (!b.Dried)) rfl (fun c7 => ?_) (fun c7 => ?_)
        · replace h := of_bif_t h c7
          refine awp_seq ?_
          refine awp_go hmix ?_
          refine go_run' ttok 1 rfl ?_
          refine go_nil nd ?_
          refine then_norm ?_
          refine awp_ret ?_
          refine block_ret ?_
          refine then_ret ?_
          have e8 := h
          subst e8
          refine ret_ret ?_
          refine fin0 ttok rfl rfl ?_
          exact (wkP_refl _ rfl)
        · replace h := of_bif_f h c7
          refine awp_seq ?_
          refine awp_go hmix ?_
          refine go_run' ttok 2 rfl ?_
          refine go_call fn38 (moist_Mean_w b.Cell _ rfl) rfl rfl rfl rfl rfl rfl rfl ?_
          refine go_run' ttok 4 rfl ?_
          refine go_nil (fun _ => by kernel_rfl) ?_
          refine then_norm ?_
          refine awp_cond (b := (decide (o.Moist < (moist_Mean_g b.Cell)))) rfl (fun c9 => ?_) (fun c9 => ?_)
          · replace h := of_bif_t h c9
            refine awp_seq ?_
            refine awp_go hmix ?_
            refine go_run' ttok 1 rfl ?_
            refine go_nil nd ?_
            refine then_norm ?_
            refine awp_ret ?_
            refine block_ret ?_
            refine then_ret ?_
            have e10 := h
            subst e10
            refine ret_ret ?_
            refine fin0 ttok rfl rfl ?_
            exact (wkP_refl _ rfl)
          · replace h := of_bif_f h c9
            refine awp_seq ?_
            refine awp_go hmix ?_
            refine go_run' ttok 4 rfl ?_
            refine go_gcase rfl rfl rfl (fun g11 => ?_) (fun g11 => ?_)
            · rw [g11]
              replace h := of_bif_t h g11
              refine go_run' ttok 7 rfl ?_
              refine go_nil nd ?_
              refine then_norm ?_
              refine awp_cond rfl (fun tt0 => ?_) (fun h => by cases h)
              clear tt0
              refine awp_seq ?_
              refine awp_go hmix ?_
              refine go_run' ttok 1 rfl ?_
              refine go_nil nd ?_
              refine then_norm ?_
              refine awp_ret ?_
              refine block_ret ?_
              refine then_ret ?_
              have e12 := h
              subst e12
              refine ret_ret ?_
              refine fin0 ttok rfl rfl ?_
              exact (wkP_refl _ rfl)
            · rw [g11]
              replace h := of_bif_f h g11
              refine go_run' ttok 7 rfl ?_
              refine go_nil nd ?_
              refine then_norm ?_
              refine awp_cond (b := (decide (o.Grade < b.Grade))) rfl (fun c13 => ?_) (fun c13 => ?_)
              · replace h := of_bif_t h c13
                refine awp_seq ?_
                refine awp_go hmix ?_
                refine go_run' ttok 1 rfl ?_
                refine go_nil nd ?_
                refine then_norm ?_
                refine awp_ret ?_
                refine block_ret ?_
                refine then_ret ?_
                have e14 := h
                subst e14
                refine ret_ret ?_
                refine fin0 ttok rfl rfl ?_
                exact (wkP_refl _ rfl)
              · replace h := of_bif_f h c13
                refine awp_skip ?_
                refine block_norm ?_
                refine then_norm ?_
                refine awp_seq ?_
                refine awp_go hmix ?_
                refine go_run' ttok 1 rfl ?_
                refine go_nil nd ?_
                refine then_norm ?_
                refine awp_ret ?_
                have e15 := h
                subst e15
                refine ret_ret ?_
                refine fin0 ttok rfl rfl ?_
                exact (wkP_refl _ rfl)

/-- sawmill/order.sound -/
noncomputable def order_sound_g (o : TOrder) : Bool :=
  (bif (decide (1 ≤ o.Want)) then (bif (decide (o.Want ≤ 200)) then (bif (decide (0 ≤ o.Minus)) then (bif (decide (o.Minus ≤ (W64 (o.Want - 1)))) then (bif (decide (0 ≤ o.Plus)) then (decide (o.Plus ≤ (W64 (200 - o.Want)))) else false) else false) else false) else false) else false)
theorem order_sound_w (o : TOrder) (r : Bool) (h : order_sound_g o = r) : Holds Try.prog 31 [(encTOrder o)] [] (B r) [] := by
  unfold order_sound_g at h
  refine holds_fn Try.func31 rfl Try.ntmps31 rfl rfl rfl (fun lim => ?_)
  refine awp_seq ?_
  refine awp_go hmix ?_
  refine go_run' ttok 2 rfl ?_
  refine go_nil nd ?_
  refine then_norm ?_
  refine awp_seq ?_
  refine awp_go hmix ?_
  refine go_run' ttok 4 rfl ?_
  refine go_gcase rfl rfl rfl (fun g1 => ?_) (fun g1 => ?_)
  · rw [g1]
    replace h := of_bif_t h g1
    refine go_run' ttok 5 rfl ?_
    refine go_gcase rfl rfl rfl (fun g2 => ?_) (fun g2 => ?_)
    · rw [g2]
      replace h := of_bif_t h g2
      refine go_run' ttok 5 rfl ?_
      refine go_gcase rfl rfl rfl (fun g3 => ?_) (fun g3 => ?_)
      · rw [g3]
        replace h := of_bif_t h g3
        refine go_run' ttok 8 rfl ?_
        refine go_gcase rfl rfl rfl (fun g4 => ?_) (fun g4 => ?_)
        · rw [g4]
          replace h := of_bif_t h g4
          refine go_run' ttok 5 rfl ?_
          refine go_gcase rfl rfl rfl (fun g5 => ?_) (fun g5 => ?_)
          · rw [g5]
            replace h := of_bif_t h g5
            refine go_run' ttok 8 rfl ?_
            refine go_nil nd ?_
            refine then_norm ?_
            refine awp_ret ?_
            have e6 := h
            subst e6
            refine ret_ret ?_
            refine fin0 ttok rfl rfl ?_
            exact (wkP_refl _ rfl)
          · rw [g5]
            replace h := of_bif_f h g5
            refine go_run' ttok 8 rfl ?_
            refine go_nil nd ?_
            refine then_norm ?_
            refine awp_ret ?_
            have e7 := h
            subst e7
            refine ret_ret ?_
            refine fin0 ttok rfl rfl ?_
            exact (wkP_refl _ rfl)
        · rw [g4]
          replace h := of_bif_f h g4
          refine go_run' ttok 13 rfl ?_
          refine go_nil nd ?_
          refine then_norm ?_
          refine awp_ret ?_
          have e8 := h
          subst e8
          refine ret_ret ?_
          refine fin0 ttok rfl rfl ?_
          exact (wkP_refl _ rfl)
      · rw [g3]
        replace h := of_bif_f h g3
        refine go_run' ttok 21 rfl ?_
        refine go_nil nd ?_
        refine then_norm ?_
        refine awp_ret ?_
        have e9 := h
        subst e9
        refine ret_ret ?_
        refine fin0 ttok rfl rfl ?_
        exact (wkP_refl _ rfl)
    · rw [g2]
      replace h := of_bif_f h g2
      refine go_run' ttok 26 rfl ?_
      refine go_nil nd ?_
      refine then_norm ?_
      refine awp_ret ?_
      have e10 := h
      subst e10
      refine ret_ret ?_
      refine fin0 ttok rfl rfl ?_
      exact (wkP_refl _ rfl)
  · rw [g1]
    replace h := of_bif_f h g1
    refine go_run' ttok 31 rfl ?_
    refine go_nil nd ?_
    refine then_norm ?_
    refine awp_ret ?_
    have e11 := h
    subst e11
    refine ret_ret ?_
    refine fin0 ttok rfl rfl ?_
    exact (wkP_refl _ rfl)

/-- sawmill/order.Least -/
noncomputable def order_Least_g (o : TOrder) : Int :=
  (bif (!(order_sound_g o)) then 0 else (W64 (o.Want - o.Minus)))
theorem order_Least_w (o : TOrder) (r : Int) (h : order_Least_g o = r) : Holds Try.prog 16 [(encTOrder o)] [] (I r) [] := by
  unfold order_Least_g at h
  refine holds_fn Try.func16 rfl Try.ntmps16 rfl rfl rfl (fun lim => ?_)
  refine awp_seq ?_
  refine awp_go hmix ?_
  refine go_run' ttok 2 rfl ?_
  refine go_nil nd ?_
  refine then_norm ?_
  refine awp_seq ?_
  refine awp_seq ?_
  refine awp_go hmix ?_
  refine go_run' ttok 1 rfl ?_
  refine go_call fn31 (order_sound_w o _ rfl) rfl rfl rfl rfl rfl rfl rfl ?_
  refine go_run' ttok 1 rfl ?_
  refine go_nil nd ?_
  refine then_norm ?_
  refine awp_cond (b := (!(order_sound_g o))) rfl (fun c1 => ?_) (fun c1 => ?_)
  · replace h := of_bif_t h c1
    refine awp_seq ?_
    refine awp_go hmix ?_
    refine go_run' ttok 1 rfl ?_
    refine go_nil nd ?_
    refine then_norm ?_
    refine awp_ret ?_
    refine then_ret ?_
    have e2 := h
    subst e2
    refine ret_ret ?_
    refine fin0 ttok rfl rfl ?_
    exact (wkP_refl _ rfl)
  · replace h := of_bif_f h c1
    refine awp_skip ?_
    refine then_norm ?_
    refine awp_seq ?_
    refine awp_go hmix ?_
    refine go_run' ttok 6 rfl ?_
    refine go_nil nd ?_
    refine then_norm ?_
    refine awp_ret ?_
    have e3 := h
    subst e3
    refine ret_ret ?_
    refine fin0 ttok rfl rfl ?_
    exact (wkP_refl _ rfl)

/-- sawmill/order.Most -/
noncomputable def order_Most_g (o : TOrder) : Int :=
  (bif (!(order_sound_g o)) then 0 else (W64 (o.Want + o.Plus)))
theorem order_Most_w (o : TOrder) (r : Int) (h : order_Most_g o = r) : Holds Try.prog 18 [(encTOrder o)] [] (I r) [] := by
  unfold order_Most_g at h
  refine holds_fn Try.func18 rfl Try.ntmps18 rfl rfl rfl (fun lim => ?_)
  refine awp_seq ?_
  refine awp_go hmix ?_
  refine go_run' ttok 2 rfl ?_
  refine go_nil nd ?_
  refine then_norm ?_
  refine awp_seq ?_
  refine awp_seq ?_
  refine awp_go hmix ?_
  refine go_run' ttok 1 rfl ?_
  refine go_call fn31 (order_sound_w o _ rfl) rfl rfl rfl rfl rfl rfl rfl ?_
  refine go_run' ttok 1 rfl ?_
  refine go_nil nd ?_
  refine then_norm ?_
  refine awp_cond (b := (!(order_sound_g o))) rfl (fun c1 => ?_) (fun c1 => ?_)
  · replace h := of_bif_t h c1
    refine awp_seq ?_
    refine awp_go hmix ?_
    refine go_run' ttok 1 rfl ?_
    refine go_nil nd ?_
    refine then_norm ?_
    refine awp_ret ?_
    refine then_ret ?_
    have e2 := h
    subst e2
    refine ret_ret ?_
    refine fin0 ttok rfl rfl ?_
    exact (wkP_refl _ rfl)
  · replace h := of_bif_f h c1
    refine awp_skip ?_
    refine then_norm ?_
    refine awp_seq ?_
    refine awp_go hmix ?_
    refine go_run' ttok 6 rfl ?_
    refine go_nil nd ?_
    refine then_norm ?_
    refine awp_ret ?_
    have e3 := h
    subst e3
    refine ret_ret ?_
    refine fin0 ttok rfl rfl ?_
    exact (wkP_refl _ rfl)

noncomputable def order_Filled_s1 (o : TOrder) (l : (List TBoard)) (vv : Int) (ks : (List ByteArray)) : Option ((Int × (List ByteArray)) ⊕ (Bool ⊕ Unit)) :=
  (bif (decide (vv < ((l.length : Nat) : Int))) then (Option.bind (getI l vv) (fun e => (bif ((order_Fits_g o e) != 0) then some (Sum.inr (Sum.inl false)) else (bif (inK e.Id ks) then some (Sum.inr (Sum.inl false)) else some (Sum.inl ((W64 (vv + 1)), (addK ks e.Id))))))) else some (Sum.inr (Sum.inr ())))
/-- sawmill/order.Filled -/
noncomputable def order_Filled_g (o : TOrder) (l : (List TBoard)) : Option Bool :=
  (bif (!(order_sound_g o)) then some false else (bif (decide (((l.length : Nat) : Int) < (order_Least_g o))) then some false else (bif (decide ((order_Most_g o) < ((l.length : Nat) : Int))) then some false else (Option.bind ((loopO (fun q => order_Filled_s1 o l q.1 q.2) (0, [])) : Option (Bool ⊕ Unit)) (Sum.elim (fun q => some q) (fun _ => some true))))))
theorem order_Filled_w (o : TOrder) (l : (List TBoard)) (r : Bool) (h : order_Filled_g o l = some r) : Holds Try.prog 20 [(encTOrder o), ((encL encTBoard) l)] [] (B r) [] := by
  unfold order_Filled_g at h
  refine holds_fn Try.func20 rfl Try.ntmps20 rfl rfl rfl (fun lim => ?_)
  refine awp_seq ?_
  refine awp_go hmix ?_
  refine go_run' ttok 2 rfl ?_
  refine go_nil nd ?_
  refine then_norm ?_
  refine awp_seq ?_
  refine awp_seq ?_
  refine awp_go hmix ?_
  refine go_run' ttok 1 rfl ?_
  refine go_call fn31 (order_sound_w o _ rfl) rfl rfl rfl rfl rfl rfl rfl ?_
  refine go_run' ttok 2 rfl ?_
  refine go_gcase rfl rfl rfl (fun g1 => ?_) (fun g1 => ?_)
  · rw [g1]
    replace h := of_bif_t h g1
    refine go_run' ttok 13 rfl ?_
    refine go_nil nd ?_
    refine then_norm ?_
    refine awp_cond rfl (fun tt0 => ?_) (fun h => by cases h)
    clear tt0
    refine awp_seq ?_
    refine awp_go hmix ?_
    refine go_run' ttok 1 rfl ?_
    refine go_nil nd ?_
    refine then_norm ?_
    refine awp_ret ?_
    refine then_ret ?_
    have e2 := of_some h
    subst e2
    refine ret_ret ?_
    refine fin0 ttok rfl rfl ?_
    exact (wkP_refl _ rfl)
  · rw [g1]
    replace h := of_bif_f h g1
    refine go_run' ttok 1 rfl ?_
    refine go_lenT encTBoard l ttok rfl rfl rfl rfl rfl rfl ?_
    refine go_run' ttok 1 rfl ?_
    refine go_call fn16 (order_Least_w o _ rfl) rfl rfl rfl rfl rfl rfl rfl ?_
    refine go_run' ttok 3 rfl ?_
    refine go_gcase rfl rfl rfl (fun g3 => ?_) (fun g3 => ?_)
    · rw [g3]
      replace h := of_bif_t h g3
      refine go_run' ttok 6 rfl ?_
      refine go_nil nd ?_
      refine then_norm ?_
      refine awp_cond rfl (fun tt0 => ?_) (fun h => by cases h)
      clear tt0
      refine awp_seq ?_
      refine awp_go hmix ?_
      refine go_run' ttok 1 rfl ?_
      refine go_nil nd ?_
      refine then_norm ?_
      refine awp_ret ?_
      refine then_ret ?_
      have e4 := of_some h
      subst e4
      refine ret_ret ?_
      refine fin0 ttok rfl rfl ?_
      exact (wkP_refl _ rfl)
    · rw [g3]
      replace h := of_bif_f h g3
      refine go_run' ttok 1 rfl ?_
      refine go_lenT encTBoard l ttok rfl rfl rfl rfl rfl rfl ?_
      refine go_run' ttok 1 rfl ?_
      refine go_call fn18 (order_Most_w o _ rfl) rfl rfl rfl rfl rfl rfl rfl ?_
      refine go_run' ttok 2 rfl ?_
      refine go_nil nd ?_
      refine then_norm ?_
      refine awp_cond (b := (decide ((order_Most_g o) < ((l.length : Nat) : Int)))) rfl (fun c5 => ?_) (fun c5 => ?_)
      · replace h := of_bif_t h c5
        refine awp_seq ?_
        refine awp_go hmix ?_
        refine go_run' ttok 1 rfl ?_
        refine go_nil nd ?_
        refine then_norm ?_
        refine awp_ret ?_
        refine then_ret ?_
        have e6 := of_some h
        subst e6
        refine ret_ret ?_
        refine fin0 ttok rfl rfl ?_
        exact (wkP_refl _ rfl)
      · replace h := of_bif_f h c5
        refine awp_skip ?_
        refine then_norm ?_
        refine awp_seq ?_
        refine awp_goE rfl rfl (fun c hc0 a w next Q => map_made (d := 500) rfl rfl c hc0 a w next Q) (fun rm hr7 => ?_)
        refine go_run' ttok 1 rfl ?_
        refine go_nil nd ?_
        refine then_norm ?_
        obtain ⟨y, hx8, h⟩ := of_obind h
        refine awp_seqJ (X := Unit) [] [] (fun _ => []) (fun _ => []) (fun w => Sum.inr w = y) rfl rfl ?_ ?_
        · skip
          refine awp_seq ?_
          refine awp_go hmix ?_
          refine go_run' ttok 1 rfl ?_
          refine go_lenT encTBoard l ttok rfl rfl rfl rfl rfl rfl ?_
          refine go_run' ttok 1 rfl ?_
          refine go_nil nd ?_
          refine then_norm ?_
          refine awp_block ?_
          refine awp_loopD (X := (Int × (List ByteArray))) (Y := (Bool ⊕ Unit)) [2, 26, 27] [2, 500] (fun q => [(28, (I q.1)), (5, (.mpv 500 rm q.2))]) (fun q => []) (fun q => order_Filled_s1 o l q.1 q.2) (0, []) [(2, some 2), (500, some 500)] hx8 ⟨rfl, rfl, rfl, rfl, rfl, ⟨wkP_id _ rfl, ⟨rfl, rfl, rfl⟩, trivial⟩, trivial⟩ (fun x vR vz hz10 hk11 => ?_)
          obtain ⟨vv, ks⟩ := x
          change order_Filled_s1 o l vv ks = _ at hz10
          unfold order_Filled_s1 at hz10
          refine awp_seq ?_
          refine awp_go hmix ?_
          refine go_run' ttok 1 rfl ?_
          refine go_nil nd ?_
          refine then_norm ?_
          refine awp_seq ?_
          refine awp_cond (b := (decide (vv < ((l.length : Nat) : Int)))) rfl (fun c12 => ?_) (fun c12 => ?_)
          · replace hz10 := of_bif_t hz10 c12
            refine awp_skip ?_
            refine then_norm ?_
            refine awp_seq ?_
            refine awp_block ?_
            refine awp_seq ?_
            refine awp_go hmix ?_
            obtain ⟨e, hv13, hz10⟩ := of_obind hz10
            refine go_indexT encTBoard l vv e hv13 ttok rfl rfl rfl rfl rfl rfl rfl rfl rfl ?_
            refine go_run' ttok 3 rfl ?_
            refine go_nil nd ?_
            refine then_norm ?_
            refine awp_seq ?_
            refine awp_seq ?_
            refine awp_go hmix ?_
            refine go_run' ttok 2 rfl ?_
            refine go_call fn14 (order_Fits_w o e _ rfl) rfl rfl rfl rfl rfl rfl rfl ?_
            refine go_run' ttok 2 rfl ?_
            refine go_gcase rfl rfl rfl (fun g14 => ?_) (fun g14 => ?_)
            · rw [g14]
              replace hz10 := of_bif_t hz10 g14
              refine go_run' ttok 5 rfl ?_
              refine go_nil nd ?_
              refine then_norm ?_
              refine awp_cond rfl (fun tt0 => ?_) (fun h => by cases h)
              clear tt0
              refine awp_seq ?_
              refine awp_go hmix ?_
              refine go_run' ttok 1 rfl ?_
              refine go_nil nd ?_
              refine then_norm ?_
              refine awp_ret ?_
              refine then_ret ?_
              refine block_ret ?_
              refine then_ret ?_
              obtain ⟨t, hn15, hq⟩ := of_mapr' hz10
              subst hq
              have hq : t = _ := hk11
              subst hq
              refine then_ret ?_
              refine block_ret ?_
              obtain ⟨t1, hn16, hq⟩ := of_mapl' hn15
              subst hq
              have hq := of_inl h
              replace hq := of_some hq
              subst hq
              refine then_ret ?_
              have e17 := of_some hn16
              subst e17
              refine ret_ret ?_
              refine fin0 ttok rfl rfl ?_
              exact (wkP_refl _ rfl)
            · rw [g14]
              replace hz10 := of_bif_f hz10 g14
              refine go_run' ttok 3 rfl ?_
              refine go_step rfl (as_lookup rfl Try.underlying65 Try.underlying9 (by kernel_rfl) rfl rfl) rfl rfl rfl ?_
              refine go_run' ttok 1 rfl ?_
              refine go_nil nd ?_
              refine then_norm ?_
              refine awp_cond (b := (inK e.Id ks)) rfl (fun c18 => ?_) (fun c18 => ?_)
              · replace hz10 := of_bif_t hz10 c18
                refine awp_seq ?_
                refine awp_go hmix ?_
                refine go_run' ttok 1 rfl ?_
                refine go_nil nd ?_
                refine then_norm ?_
                refine awp_ret ?_
                refine then_ret ?_
                refine block_ret ?_
                refine then_ret ?_
                obtain ⟨t2, hn19, hq⟩ := of_mapr' hz10
                subst hq
                have hq : t2 = _ := hk11
                subst hq
                refine then_ret ?_
                refine block_ret ?_
                obtain ⟨t3, hn20, hq⟩ := of_mapl' hn19
                subst hq
                have hq := of_inl h
                replace hq := of_some hq
                subst hq
                refine then_ret ?_
                have e21 := of_some hn20
                subst e21
                refine ret_ret ?_
                refine fin0 ttok rfl rfl ?_
                exact (wkP_refl _ rfl)
              · replace hz10 := of_bif_f hz10 c18
                refine awp_skip ?_
                refine then_norm ?_
                refine awp_goL rfl rfl rfl ?_
                refine go_run' ttok 3 rfl ?_
                refine go_nil nd ?_
                refine ⟨⟨_, [(2, (.ref 2 0 0)), (5, (.mpv 500 rm (addK ks e.Id))), (7, (.ref 7 0 0)), (26, (encL encTBoard l)), (27, (I ((l.length : Nat) : Int))), (28, (I vv)), (29, (B (decide (vv < ((l.length : Nat) : Int))))), (31, (.agg [(S e.Id), (S e.Log), (S e.Species), (I e.Product), (I e.Box.x.a), (I e.Box.x.b), (I e.Box.y.a), (I e.Box.y.b), (I e.Box.z.a), (I e.Box.z.b), (I e.Volume), (encL encDf e.Defects), (I e.Wane), (I e.Cell.Surf), (I e.Cell.Core), (I e.Cell.Stress), (B e.Dried), (I e.Grade)])), (32, (.agg [(S o.Id), (S o.Species), (I o.Product), (I o.Length), (I o.Grade), (I o.Moist), (I o.Want), (I o.Minus), (I o.Plus), (I o.Price), (I o.Due)])), (33, (.agg [(S e.Id), (S e.Log), (S e.Species), (I e.Product), (I e.Box.x.a), (I e.Box.x.b), (I e.Box.y.a), (I e.Box.y.b), (I e.Box.z.a), (I e.Box.z.b), (I e.Volume), (encL encDf e.Defects), (I e.Wane), (I e.Cell.Surf), (I e.Cell.Core), (I e.Cell.Stress), (B e.Dried), (I e.Grade)])), (34, (I (order_Fits_g o e))), (35, (B false)), (36, (B false)), (37, (.mpv 500 rm (addK ks e.Id))), (38, (.ref 7 0 0)), (39, (S e.Id)), (40, (B (inK e.Id ks))), (41, (B (inK e.Id ks))), (42, (.mpv 500 rm (addK ks e.Id))), (43, (.ref 7 0 0)), (44, (S e.Id))], _⟩, op_mapUpdate hr7 rfl rfl Try.underlying65 Try.underlying9 rfl rfl rfl ⟨.inl ⟨rfl, rfl⟩, .inr ⟨rfl, rfl⟩, .inl ⟨rfl, rfl⟩, .inl ⟨rfl, rfl⟩, .inl ⟨rfl, rfl⟩, .inl ⟨rfl, rfl⟩, .inl ⟨rfl, rfl⟩, .inl ⟨rfl, rfl⟩, .inl ⟨rfl, rfl⟩, .inl ⟨rfl, rfl⟩, .inl ⟨rfl, rfl⟩, .inl ⟨rfl, rfl⟩, .inl ⟨rfl, rfl⟩, .inr ⟨rfl, rfl⟩, .inl ⟨rfl, rfl⟩, .inl ⟨rfl, rfl⟩, .inl ⟨rfl, rfl⟩, .inl ⟨rfl, rfl⟩, .inr ⟨rfl, rfl⟩, .inl ⟨rfl, rfl⟩, .inl ⟨rfl, rfl⟩, trivial⟩ rfl, ?_⟩
                refine block_norm ?_
                refine then_norm ?_
                refine awp_go hmix ?_
                refine go_run' ttok 2 rfl ?_
                refine go_nil nd ?_
                have e22 := of_some hz10
                subst e22
                refine then_norm ⟨rfl, ((W64 (vv + 1)), (addK ks e.Id)), [(2, some 2), (500, some 500)], ⟨rfl, rfl, rfl, rfl, rfl, ⟨wkP_id _ rfl, ⟨rfl, rfl, rfl⟩, trivial⟩, trivial⟩, hk11⟩
          · replace hz10 := of_bif_f hz10 c12
            refine awp_exit ?_
            refine then_exit ?_
            obtain ⟨t4, hn23, hq⟩ := of_mapr' hz10
            subst hq
            have hq : t4 = _ := hk11
            subst hq
            refine then_exit ?_
            refine block_here ?_
            have e24 := of_some hn23
            refine then_norm ⟨rfl, (), [], ⟨rfl, rfl, rfl, rfl, rfl, trivial, trivial⟩, e24⟩
        · intro w hw9
          subst hw9
          replace h := of_inr h
          refine awp_seq ?_
          refine awp_go hmix ?_
          refine go_run' ttok 1 rfl ?_
          refine go_nil nd ?_
          refine then_norm ?_
          refine awp_ret ?_
          have e25 := of_some h
          subst e25
          refine ret_ret ?_
          refine fin0 ttok rfl rfl ?_
          exact (wkP_refl _ rfl)
noncomputable def order_Filled_cs1 (N : Nat) (o : TOrder) (l : (List TBoard)) (vv : Int) (ks : (List ByteArray)) : Option ((Int × (List ByteArray)) ⊕ (Bool ⊕ Unit)) :=
  (bif (decide (vv < ((l.length : Nat) : Int))) then (Option.bind (getI l vv) (fun e => (bif ((order_Fits_g o e) != 0) then some (Sum.inr (Sum.inl false)) else (bif (inK e.Id ks) then some (Sum.inr (Sum.inl false)) else some (Sum.inl ((W64 (vv + 1)), (addK ks e.Id))))))) else some (Sum.inr (Sum.inr ())))
theorem order_Filled_cs1_le (N : Nat) (o : TOrder) (l : (List TBoard)) (vv : Int) (ks : (List ByteArray)) : OLe (order_Filled_cs1 N o l vv ks) (order_Filled_s1 o l vv ks) := by
  unfold order_Filled_cs1 order_Filled_s1
  repeat' (first | exact ole_rfl | refine ole_bif ?_ ?_ | refine ole_bind ?_ (fun _ => ?_) | refine ole_let (fun _ => ?_) | refine ole_map ?_ | refine ole_elim (fun _ => ?_) (fun _ => ?_) | refine ole_loop (fun _ => ?_))
noncomputable def order_Filled_c (N : Nat) (o : TOrder) (l : (List TBoard)) : Option Bool :=
  (bif (!(order_sound_g o)) then some false else (bif (decide (((l.length : Nat) : Int) < (order_Least_g o))) then some false else (bif (decide ((order_Most_g o) < ((l.length : Nat) : Int))) then some false else (Option.bind ((iterX N (fun q => order_Filled_cs1 N o l q.1 q.2) (0, [])) : Option (Bool ⊕ Unit)) (Sum.elim (fun q => some q) (fun _ => some true))))))
theorem order_Filled_le (N : Nat) (o : TOrder) (l : (List TBoard)) : OLe (order_Filled_c N o l) (order_Filled_g o l) := by
  unfold order_Filled_c order_Filled_g
  repeat' (first | exact ole_rfl | exact order_Filled_cs1_le _ _ _ _ _ | refine ole_bif ?_ ?_ | refine ole_bind ?_ (fun _ => ?_) | refine ole_let (fun _ => ?_) | refine ole_map ?_ | refine ole_elim (fun _ => ?_) (fun _ => ?_) | refine ole_loop (fun _ => ?_))

/-- sawmill/ident.isSmall -/
noncomputable def ident_isSmall_g (c : Int) : Bool :=
  (bif (decide (97 ≤ c)) then (decide (c ≤ 122)) else false)
theorem ident_isSmall_w (c : Int) (r : Bool) (h : ident_isSmall_g c = r) : Holds Try.prog 57 [(U8 c)] [] (B r) [] := by
  unfold ident_isSmall_g at h
  refine holds_fn Try.func57 rfl Try.ntmps57 rfl rfl rfl (fun lim => ?_)
  refine awp_seq ?_
  refine awp_go hmix ?_
  refine go_run' ttok 1 rfl ?_
  refine go_nil nd ?_
  refine then_norm ?_
  refine awp_seq ?_
  refine awp_go hmix ?_
  refine go_run' ttok 3 rfl ?_
  refine go_gcase rfl rfl rfl (fun g1 => ?_) (fun g1 => ?_)
  · rw [g1]
    replace h := of_bif_t h g1
    refine go_run' ttok 4 rfl ?_
    refine go_nil nd ?_
    refine then_norm ?_
    refine awp_ret ?_
    have e2 := h
    subst e2
    refine ret_ret ?_
    refine fin0 ttok rfl rfl ?_
    exact (wkP_refl _ rfl)
  · rw [g1]
    replace h := of_bif_f h g1
    refine go_run' ttok 4 rfl ?_
    refine go_nil nd ?_
    refine then_norm ?_
    refine awp_ret ?_
    have e3 := h
    subst e3
    refine ret_ret ?_
    refine fin0 ttok rfl rfl ?_
    exact (wkP_refl _ rfl)

/-- sawmill/ident.isDigit -/
noncomputable def ident_isDigit_g (c : Int) : Bool :=
  (bif (decide (48 ≤ c)) then (decide (c ≤ 57)) else false)
theorem ident_isDigit_w (c : Int) (r : Bool) (h : ident_isDigit_g c = r) : Holds Try.prog 58 [(U8 c)] [] (B r) [] := by
  unfold ident_isDigit_g at h
  refine holds_fn Try.func58 rfl Try.ntmps58 rfl rfl rfl (fun lim => ?_)
  refine awp_seq ?_
  refine awp_go hmix ?_
  refine go_run' ttok 1 rfl ?_
  refine go_nil nd ?_
  refine then_norm ?_
  refine awp_seq ?_
  refine awp_go hmix ?_
  refine go_run' ttok 3 rfl ?_
  refine go_gcase rfl rfl rfl (fun g1 => ?_) (fun g1 => ?_)
  · rw [g1]
    replace h := of_bif_t h g1
    refine go_run' ttok 4 rfl ?_
    refine go_nil nd ?_
    refine then_norm ?_
    refine awp_ret ?_
    have e2 := h
    subst e2
    refine ret_ret ?_
    refine fin0 ttok rfl rfl ?_
    exact (wkP_refl _ rfl)
  · rw [g1]
    replace h := of_bif_f h g1
    refine go_run' ttok 4 rfl ?_
    refine go_nil nd ?_
    refine then_norm ?_
    refine awp_ret ?_
    have e3 := h
    subst e3
    refine ret_ret ?_
    refine fin0 ttok rfl rfl ?_
    exact (wkP_refl _ rfl)

end Go.Proofs.Ytmfgheklnjmbjaa
