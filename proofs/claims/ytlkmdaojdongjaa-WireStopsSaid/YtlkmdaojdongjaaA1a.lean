/- A1a: what functions of the program compute (written by mod.py). -/
import Derived.Test.YtlkmdaojdongjaaTy
import Derived.KernelRfl
namespace Go.Proofs.Ytlkmdaojdongjaa
open Go Go.Ab
set_option linter.unusedSimpArgs false
set_option linter.unusedVariables false
set_option maxRecDepth 20000

noncomputable def wire_Uint_s1 (n2 : Int) (b1 : (List Int)) : Option ((Int × (List Int)) ⊕ (Int × (List Int))) :=
  (bif (decide (128 ≤ n2)) then (Option.bind (appO 1 b1 ([(bOr .u8 (WU8 n2) 128)])) (fun l => some (Sum.inl ((bShr .u64 n2 7), l)))) else some (Sum.inr (n2, b1)))
/-- sawmill/wire.Uint -/
noncomputable def wire_Uint_g (n : Int) : Option ByteArray :=
  (Option.bind ((loopO (fun q => wire_Uint_s1 q.1 q.2) (n, [])) : Option (Int × (List Int))) (fun w1 => (Option.bind (appO 1 w1.2 ([(WU8 w1.1)])) (fun l1 => some (b2s l1)))))
theorem wire_Uint_w (n : Int) (r : ByteArray) (h : wire_Uint_g n = some r) : Holds Try.prog 12 [(U64 n)] [] (S r) [] := by
  unfold wire_Uint_g at h
  refine holds_fn Try.func12 rfl Try.ntmps12 rfl rfl rfl ?_
  refine awp_seq ?_
  refine awp_go hmix ?_
  refine go_run' ttok 1 rfl ?_
  refine go_nil nd ?_
  refine then_norm ?_
  refine awp_seq ?_
  refine awp_go hmix ?_
  refine go_run' ttok 1 rfl ?_
  refine go_nil nd ?_
  refine then_norm ?_
  obtain ⟨y, hx1, h⟩ := of_obind h
  refine awp_seqJ (X := (Int × (List Int))) [] [] (fun w => [(0, (U64 w.1)), (3, (.arr 3 0 w.2.length))]) (fun w => [(3, some ⟨5, 1, w.2.map U8⟩)]) (fun w => w = y) rfl rfl ?_ ?_
  · skip
    refine awp_block ?_
    refine awp_loopD (X := (Int × (List Int))) (Y := (Int × (List Int))) [] [] (fun q => [(0, (U64 q.1)), (3, (.arr 3 0 q.2.length))]) (fun q => [(3, some ⟨5, 1, q.2.map U8⟩)]) (fun q => wire_Uint_s1 q.1 q.2) (n, []) [(3, none)] hx1 ⟨rfl, rfl, rfl, rfl, rfl, ⟨wkP_id _ rfl, ⟨rfl, rfl, (by first | rfl | simp [setI])⟩, trivial⟩, ⟨rfl, trivial⟩⟩ (fun x vR vz hz3 hk4 => ?_)
    obtain ⟨n2, b1⟩ := x
    change wire_Uint_s1 n2 b1 = _ at hz3
    unfold wire_Uint_s1 at hz3
    refine awp_seq ?_
    refine awp_seq ?_
    refine awp_go hmix ?_
    refine go_run' ttok 2 rfl ?_
    refine go_nil nd ?_
    refine then_norm ?_
    refine awp_cond (b := (decide (128 ≤ n2))) rfl (fun c5 => ?_) (fun c5 => ?_)
    · replace hz3 := of_bif_t hz3 c5
      refine awp_skip ?_
      refine then_norm ?_
      refine awp_block ?_
      refine awp_seq ?_
      refine awp_go hmix ?_
      refine go_run' ttok 5 rfl ?_
      obtain ⟨l, hv6, hz3⟩ := of_obind hz3
      refine go_appT U8 b1 ([(bOr .u8 (WU8 n2) 128)]) l hv6 (fun _ => rfl) (by first | rfl | simp [setI]) (by first | rfl | simp [setI]) ttok rfl rfl rfl rfl rfl rfl rfl rfl rfl rfl rfl rfl rfl rfl rfl rfl rfl ?_
      refine go_run' ttok 1 rfl ?_
      refine go_nil nd ?_
      refine then_norm ?_
      refine awp_go hmix ?_
      refine go_run' ttok 3 rfl ?_
      refine go_nil nd ?_
      refine block_norm ?_
      have e7 := of_some hz3
      subst e7
      refine then_norm ⟨rfl, ((bShr .u64 n2 7), l), [(3, some 11)], ⟨rfl, rfl, rfl, rfl, rfl, ⟨wkP_id _ rfl, ⟨rfl, rfl, (by first | rfl | simp [setI])⟩, trivial⟩, ⟨⟨_, rfl, rfl, rfl, wkX_map (enc := U8) l (fun _ => rfl)⟩, trivial⟩⟩, hk4⟩
    · replace hz3 := of_bif_f hz3 c5
      refine awp_exit ?_
      refine then_exit ?_
      obtain ⟨t, hn8, hq⟩ := of_mapr' hz3
      subst hq
      have hq : t = _ := hk4
      subst hq
      refine then_exit ?_
      refine block_here ?_
      have e9 := of_some hn8
      refine then_norm ⟨rfl, (n2, b1), [(3, some 3)], ⟨rfl, rfl, rfl, rfl, rfl, ⟨wkP_id _ rfl, ⟨rfl, rfl, (by first | rfl | simp [setI])⟩, trivial⟩, ⟨⟨_, rfl, rfl, rfl, wkX_map (enc := U8) b1 (fun _ => rfl)⟩, trivial⟩⟩, e9⟩
  · intro w hw2
    subst hw2
    obtain ⟨n1, b⟩ := w
    refine awp_seq ?_
    refine awp_go hmix ?_
    refine go_run' ttok 4 rfl ?_
    obtain ⟨l1, hv10, h⟩ := of_obind h
    refine go_appT U8 b ([(WU8 n1)]) l1 hv10 (fun _ => rfl) (by first | rfl | simp [setI]) (by first | rfl | simp [setI]) ttok rfl rfl rfl rfl rfl rfl rfl rfl rfl rfl rfl rfl rfl rfl rfl rfl rfl ?_
    refine go_b2s l1 (by first | rfl | simp [setI]) ttok rfl rfl rfl rfl rfl rfl rfl rfl rfl rfl rfl rfl ?_
    refine go_run' ttok 1 rfl ?_
    refine go_nil nd ?_
    refine then_norm ?_
    refine awp_ret ?_
    have e11 := of_some h
    subst e11
    refine ret_ret ?_
    refine fin0 ttok rfl rfl ?_
    exact (wkP_refl _ rfl)
noncomputable def wire_Uint_cs1 (N : Nat) (n2 : Int) (b1 : (List Int)) : Option ((Int × (List Int)) ⊕ (Int × (List Int))) :=
  (bif (decide (128 ≤ n2)) then (Option.bind (appO 1 b1 ([(bOr .u8 (WU8 n2) 128)])) (fun l => some (Sum.inl ((bShr .u64 n2 7), l)))) else some (Sum.inr (n2, b1)))
theorem wire_Uint_cs1_le (N : Nat) (n2 : Int) (b1 : (List Int)) : OLe (wire_Uint_cs1 N n2 b1) (wire_Uint_s1 n2 b1) := by
  unfold wire_Uint_cs1 wire_Uint_s1
  repeat' (first | exact ole_rfl | refine ole_bif ?_ ?_ | refine ole_bind ?_ (fun _ => ?_) | refine ole_let (fun _ => ?_) | refine ole_map ?_ | refine ole_elim (fun _ => ?_) (fun _ => ?_) | refine ole_loop (fun _ => ?_))
noncomputable def wire_Uint_c (N : Nat) (n : Int) : Option ByteArray :=
  (Option.bind ((iterX N (fun q => wire_Uint_cs1 N q.1 q.2) (n, [])) : Option (Int × (List Int))) (fun w1 => (Option.bind (appO 1 w1.2 ([(WU8 w1.1)])) (fun l1 => some (b2s l1)))))
theorem wire_Uint_le (N : Nat) (n : Int) : OLe (wire_Uint_c N n) (wire_Uint_g n) := by
  unfold wire_Uint_c wire_Uint_g
  repeat' (first | exact ole_rfl | exact wire_Uint_cs1_le _ _ _ | refine ole_bif ?_ ?_ | refine ole_bind ?_ (fun _ => ?_) | refine ole_let (fun _ => ?_) | refine ole_map ?_ | refine ole_elim (fun _ => ?_) (fun _ => ?_) | refine ole_loop (fun _ => ?_))

/-- sawmill/sawmillref05.Uint -/
noncomputable def r05_Uint_r : Nat → Int → Option ByteArray
  | 0 => fun _ => none
  | N + 1 => fun n =>
  (bif (decide (n < 128)) then some (b2s ([(WU8 n)])) else (Option.bind (r05_Uint_r N (WU64 (Int.tdiv n 128))) (fun uv => (Option.bind (catO (b2s ([(WU8 (WU64 (128 + (Int.tmod n 128))))])) uv) (fun t => some t)))))
theorem r05_Uint_mono : ∀ (N : Nat) (n : Int) , OLe (r05_Uint_r N n) (r05_Uint_r (N + 1) n) := by
  intro N
  induction N with
  | zero => intro n r h; cases h
  | succ N ih =>
    intro n
    rw [r05_Uint_r, r05_Uint_r]
    repeat' (first | exact ole_rfl | exact ih _ | refine ole_bif ?_ ?_ | refine ole_bind ?_ (fun _ => ?_) | refine ole_let (fun _ => ?_) | refine ole_map ?_ | refine ole_elim (fun _ => ?_) (fun _ => ?_))
noncomputable def r05_Uint_g (n : Int) : Option ByteArray := limO (fun N => r05_Uint_r N n)
theorem r05_Uint_rw : ∀ (N : Nat) (n : Int) (r : ByteArray) (h : r05_Uint_r N n = some r), Holds Try.prog 13 [(U64 n)] [] (S r) [] := by
  intro N
  induction N with
  | zero => intro n r h; cases h
  | succ N ih =>
    intro n r h
    rw [r05_Uint_r] at h
    refine holds_fn Try.func13 rfl Try.ntmps13 rfl rfl rfl ?_
    refine awp_seq ?_
    refine awp_go hmix ?_
    refine go_run' ttok 1 rfl ?_
    refine go_nil nd ?_
    refine then_norm ?_
    refine awp_seq ?_
    refine awp_seq ?_
    refine awp_go hmix ?_
    refine go_run' ttok 2 rfl ?_
    refine go_nil nd ?_
    refine then_norm ?_
    refine awp_cond (b := (decide (n < 128))) rfl (fun c1 => ?_) (fun c1 => ?_)
    · replace h := of_bif_t h c1
      refine awp_seq ?_
      refine awp_go hmix ?_
      refine go_run' ttok 3 rfl ?_
      refine go_b2s ([(WU8 n)]) (by first | rfl | simp [setI]) ttok rfl rfl rfl rfl rfl rfl rfl rfl rfl rfl rfl rfl ?_
      refine go_run' ttok 1 rfl ?_
      refine go_nil nd ?_
      refine then_norm ?_
      refine awp_ret ?_
      refine then_ret ?_
      have e2 := of_some h
      subst e2
      refine ret_ret ?_
      refine fin0 ttok rfl rfl ?_
      exact (wkP_refl _ rfl)
    · replace h := of_bif_f h c1
      refine awp_skip ?_
      refine then_norm ?_
      refine awp_seq ?_
      refine awp_go hmix ?_
      refine go_run' ttok 5 rfl ?_
      refine go_b2s ([(WU8 (WU64 (128 + (Int.tmod n 128))))]) (by first | rfl | simp [setI]) ttok rfl rfl rfl rfl rfl rfl rfl rfl rfl rfl rfl rfl ?_
      refine go_run' ttok 2 rfl ?_
      obtain ⟨uv, hv3, h⟩ := of_obind h
      refine go_call fn13 (ih (WU64 (Int.tdiv n 128)) uv hv3) rfl rfl rfl rfl rfl rfl rfl ?_
      obtain ⟨t, hv4, h⟩ := of_obind h
      refine go_catT (b2s ([(WU8 (WU64 (128 + (Int.tmod n 128))))])) uv t hv4 rfl rfl rfl rfl rfl ?_
      refine go_run' ttok 1 rfl ?_
      refine go_nil (fun _ => by kernel_rfl) ?_
      refine then_norm ?_
      refine awp_ret ?_
      have e5 := of_some h
      subst e5
      refine ret_ret ?_
      refine fin0 ttok rfl rfl ?_
      exact (wkP_refl _ rfl)
theorem r05_Uint_w (n : Int) (r : ByteArray) (h : r05_Uint_g n = some r) : Holds Try.prog 13 [(U64 n)] [] (S r) [] := by
  obtain ⟨N, hN⟩ := limO_some h
  exact r05_Uint_rw N n r hN
theorem r05_Uint_g_of {N : Nat} (n : Int) {r : ByteArray} (h : r05_Uint_r N n = some r) : r05_Uint_g n = some r := limO_of (fun N => r05_Uint_mono N n) h

/-- sawmill/wire.Int -/
noncomputable def wire_Int_g (n : Int) : Option ByteArray :=
  (bif (decide (n < 0)) then (Option.bind (wire_Uint_g (bOr .u64 (bShl .u64 (bNot .u64 (WU64 n)) 1) 1)) (fun uv => some uv)) else (Option.bind (wire_Uint_g (bShl .u64 (WU64 n) 1)) (fun uv1 => some uv1)))
theorem wire_Int_w (n : Int) (r : ByteArray) (h : wire_Int_g n = some r) : Holds Try.prog 14 [(I n)] [] (S r) [] := by
  unfold wire_Int_g at h
  refine holds_fn Try.func14 rfl Try.ntmps14 rfl rfl rfl ?_
  refine awp_seq ?_
  refine awp_go hmix ?_
  refine go_run' ttok 1 rfl ?_
  refine go_nil nd ?_
  refine then_norm ?_
  refine awp_seq ?_
  refine awp_seq ?_
  refine awp_go hmix ?_
  refine go_run' ttok 2 rfl ?_
  refine go_nil nd ?_
  refine then_norm ?_
  refine awp_cond (b := (decide (n < 0))) rfl (fun c1 => ?_) (fun c1 => ?_)
  · replace h := of_bif_t h c1
    refine awp_seq ?_
    refine awp_go hmix ?_
    refine go_run' ttok 5 rfl ?_
    obtain ⟨uv, hv2, h⟩ := of_obind h
    refine go_call fn12 (wire_Uint_w (bOr .u64 (bShl .u64 (bNot .u64 (WU64 n)) 1) 1) uv hv2) rfl rfl rfl rfl rfl rfl rfl ?_
    refine go_run' ttok 1 rfl ?_
    refine go_nil nd ?_
    refine then_norm ?_
    refine awp_ret ?_
    refine then_ret ?_
    have e3 := of_some h
    subst e3
    refine ret_ret ?_
    refine fin0 ttok rfl rfl ?_
    exact (wkP_refl _ rfl)
  · replace h := of_bif_f h c1
    refine awp_skip ?_
    refine then_norm ?_
    refine awp_seq ?_
    refine awp_go hmix ?_
    refine go_run' ttok 3 rfl ?_
    obtain ⟨uv1, hv4, h⟩ := of_obind h
    refine go_call fn12 (wire_Uint_w (bShl .u64 (WU64 n) 1) uv1 hv4) rfl rfl rfl rfl rfl rfl rfl ?_
    refine go_run' ttok 1 rfl ?_
    refine go_nil nd ?_
    refine then_norm ?_
    refine awp_ret ?_
    have e5 := of_some h
    subst e5
    refine ret_ret ?_
    refine fin0 ttok rfl rfl ?_
    exact (wkP_refl _ rfl)
noncomputable def wire_Int_c (N : Nat) (n : Int) : Option ByteArray :=
  (bif (decide (n < 0)) then (Option.bind ((wire_Uint_c N) (bOr .u64 (bShl .u64 (bNot .u64 (WU64 n)) 1) 1)) (fun uv => some uv)) else (Option.bind ((wire_Uint_c N) (bShl .u64 (WU64 n) 1)) (fun uv1 => some uv1)))
theorem wire_Int_le (N : Nat) (n : Int) : OLe (wire_Int_c N n) (wire_Int_g n) := by
  unfold wire_Int_c wire_Int_g
  repeat' (first | exact ole_rfl | exact wire_Uint_le _ _ | refine ole_bif ?_ ?_ | refine ole_bind ?_ (fun _ => ?_) | refine ole_let (fun _ => ?_) | refine ole_map ?_ | refine ole_elim (fun _ => ?_) (fun _ => ?_) | refine ole_loop (fun _ => ?_))

/-- sawmill/sawmillref05.Zigzag -/
noncomputable def r05_Zigzag_g (n : Int) : Int :=
  (bif (decide (0 ≤ n)) then (WU64 (2 * (WU64 n))) else (WU64 ((WU64 (2 * (WU64 (W64 (0 - (W64 (n + 1))))))) + 1)))
theorem r05_Zigzag_w (n : Int) (r : Int) (h : r05_Zigzag_g n = r) : Holds Try.prog 41 [(I n)] [] (U64 r) [] := by
  unfold r05_Zigzag_g at h
  refine holds_fn Try.func41 rfl Try.ntmps41 rfl rfl rfl ?_
  refine awp_seq ?_
  refine awp_go hmix ?_
  refine go_run' ttok 1 rfl ?_
  refine go_nil nd ?_
  refine then_norm ?_
  refine awp_seq ?_
  refine awp_seq ?_
  refine awp_go hmix ?_
  refine go_run' ttok 2 rfl ?_
  refine go_nil nd ?_
  refine then_norm ?_
  refine awp_cond (b := (decide (0 ≤ n))) rfl (fun c1 => ?_) (fun c1 => ?_)
  · replace h := of_bif_t h c1
    refine awp_seq ?_
    refine awp_go hmix ?_
    refine go_run' ttok 4 rfl ?_
    refine go_nil nd ?_
    refine then_norm ?_
    refine awp_ret ?_
    refine then_ret ?_
    have e2 := h
    subst e2
    refine ret_ret ?_
    refine fin0 ttok rfl rfl ?_
    exact (wkP_refl _ rfl)
  · replace h := of_bif_f h c1
    refine awp_skip ?_
    refine then_norm ?_
    refine awp_seq ?_
    refine awp_go hmix ?_
    refine go_run' ttok 7 rfl ?_
    refine go_nil nd ?_
    refine then_norm ?_
    refine awp_ret ?_
    have e3 := h
    subst e3
    refine ret_ret ?_
    refine fin0 ttok rfl rfl ?_
    exact (wkP_refl _ rfl)

/-- sawmill/sawmillref05.Int -/
noncomputable def r05_Int_g (n : Int) : Option ByteArray :=
  (Option.bind (r05_Uint_g (r05_Zigzag_g n)) (fun uv => some uv))
theorem r05_Int_w (n : Int) (r : ByteArray) (h : r05_Int_g n = some r) : Holds Try.prog 15 [(I n)] [] (S r) [] := by
  unfold r05_Int_g at h
  refine holds_fn Try.func15 rfl Try.ntmps15 rfl rfl rfl ?_
  refine awp_seq ?_
  refine awp_go hmix ?_
  refine go_run' ttok 1 rfl ?_
  refine go_nil nd ?_
  refine then_norm ?_
  refine awp_seq ?_
  refine awp_go hmix ?_
  refine go_run' ttok 1 rfl ?_
  refine go_call fn41 (r05_Zigzag_w n _ rfl) rfl rfl rfl rfl rfl rfl rfl ?_
  obtain ⟨uv, hv1, h⟩ := of_obind h
  refine go_call fn13 (r05_Uint_w (r05_Zigzag_g n) uv hv1) rfl rfl rfl rfl rfl rfl rfl ?_
  refine go_run' ttok 1 rfl ?_
  refine go_nil nd ?_
  refine then_norm ?_
  refine awp_ret ?_
  have e2 := of_some h
  subst e2
  refine ret_ret ?_
  refine fin0 ttok rfl rfl ?_
  exact (wkP_refl _ rfl)

/-- sawmill/wire.NewReader -/
noncomputable def wire_NewReader_g (s : ByteArray) : Twire_Reader :=
  (⟨s, 0, 0⟩ : Twire_Reader)
theorem wire_NewReader_w (s : ByteArray) (r : Twire_Reader) (h : wire_NewReader_g s = r) : Holds Try.prog 21 [(S s)] [] (.ref 999 0 0) [(999, some ⟨81, 3, [(encTwire_Reader r)]⟩)] := by
  unfold wire_NewReader_g at h
  refine holds_fn Try.func21 rfl Try.ntmps21 rfl rfl rfl ?_
  refine awp_seq ?_
  refine awp_go hmix ?_
  refine go_run' ttok 1 rfl ?_
  refine go_nil nd ?_
  refine then_norm ?_
  refine awp_seq ?_
  refine awp_go hmix ?_
  refine go_run' ttok 4 rfl ?_
  refine go_nil nd ?_
  refine then_norm ?_
  refine awp_ret ?_
  have e1 := h
  subst e1
  refine ret_ret ?_
  exact finB [(999, some 5)] ttok rfl rfl rfl rfl ⟨rfl, rfl, rfl⟩ ⟨⟨_, rfl, rfl, rfl, .inl ⟨rfl, nr_one rfl⟩⟩, trivial⟩

/-- (*sawmill/wire.Reader).stopped -/
noncomputable def wire_Reader__stopped_g (vr : Twire_Reader) : Bool :=
  (vr.e != 0)
theorem wire_Reader__stopped_w (vr : Twire_Reader) (r : Bool) (h : wire_Reader__stopped_g vr = r) : Holds Try.prog 45 [(.ref 1000 0 0)] [(1000, some ⟨81, 3, [(encTwire_Reader vr)]⟩)] (B r) [(1000, some ⟨81, 3, [(encTwire_Reader vr)]⟩)] := by
  unfold wire_Reader__stopped_g at h
  refine holds_fn Try.func45 rfl Try.ntmps45 rfl rfl rfl ?_
  refine awp_seq ?_
  refine awp_go hmix ?_
  refine go_run' ttok 1 rfl ?_
  refine go_nil nd ?_
  refine then_norm ?_
  refine awp_seq ?_
  refine awp_go hmix ?_
  refine go_run' ttok 1 rfl ?_
  refine go_step rfl (as_refNil (.inl ⟨rfl, rfl⟩) rfl Try.underlying33 rfl rfl) rfl rfl rfl ?_
  refine go_run' ttok 2 rfl ?_
  refine go_step rfl (as_nilCheck rfl rfl) rfl rfl rfl ?_
  refine go_run' ttok 5 rfl ?_
  refine go_nil nd ?_
  refine then_norm ?_
  refine awp_ret ?_
  have e1 := h
  subst e1
  refine ret_ret ?_
  exact finB [(1000, some 1000)] ttok rfl rfl rfl rfl (wkP_refl _ rfl) ⟨⟨_, rfl, rfl, rfl, .inl ⟨rfl, nr_one rfl⟩⟩, trivial⟩

/-- (*sawmill/wire.Reader).stopped -/
noncomputable def wire_Reader__stopped_nil_g : Bool :=
  true
theorem wire_Reader__stopped_nil_w (r : Bool) (h : wire_Reader__stopped_nil_g = r) : Holds Try.prog 45 [(.sc (.pointer none))] [] (B r) [] := by
  unfold wire_Reader__stopped_nil_g at h
  refine holds_fn Try.func45 rfl Try.ntmps45 rfl rfl rfl ?_
  refine awp_seq ?_
  refine awp_go hmix ?_
  refine go_run' ttok 1 rfl ?_
  refine go_nil nd ?_
  refine then_norm ?_
  refine awp_seq ?_
  refine awp_go hmix ?_
  refine go_run' ttok 1 rfl ?_
  refine go_step rfl (as_nilNil (.inl ⟨rfl, rfl⟩) rfl Try.underlying33 rfl rfl) rfl rfl rfl ?_
  refine go_run' ttok 8 rfl ?_
  refine go_nil nd ?_
  refine then_norm ?_
  refine awp_ret ?_
  have e1 := h
  subst e1
  refine ret_ret ?_
  refine fin0 ttok rfl rfl ?_
  exact (wkP_refl _ rfl)

noncomputable def wire_Reader__number_s1 (vr : Twire_Reader) (vat : Int) (n : Int) (i : Int) : Option ((Int × Int) ⊕ (Int × Int × Int)) :=
  (bif (decide (((vr.s.size : Nat) : Int) ≤ (W64 (vat + i)))) then some (Sum.inr (0, 0, 3)) else (Option.bind (bytO vr.s (W64 (vat + i))) (fun c => (Option.bind ((bif (i == 9) then (bif (decide (1 < c)) then some (Sum.inl (Sum.inr (0, 0, 5))) else some (Sum.inr ())) else some (Sum.inr ())) : Option (((Int × Int) ⊕ (Int × Int × Int)) ⊕ Unit)) (Sum.elim (fun q => some q) (fun _ => (bif decide (0 ≤ (W64 (7 * i))) then (bif (decide (128 ≤ c)) then some (Sum.inl ((bOr .u64 n (bShl .u64 (WU64 (bAnd .u8 c 127)) (W64 (7 * i)))), (W64 (i + 1)))) else (bif (c == 0) then (bif (decide (0 < i)) then some (Sum.inr (0, 0, 5)) else some (Sum.inr ((bOr .u64 n (bShl .u64 (WU64 (bAnd .u8 c 127)) (W64 (7 * i)))), (W64 ((W64 (vat + i)) + 1)), 0))) else some (Sum.inr ((bOr .u64 n (bShl .u64 (WU64 (bAnd .u8 c 127)) (W64 (7 * i)))), (W64 ((W64 (vat + i)) + 1)), 0)))) else none)))))))
/-- (*sawmill/wire.Reader).number -/
noncomputable def wire_Reader__number_g (vr : Twire_Reader) (vat : Int) : Option (Int × Int × Int) :=
  (loopO (fun q => wire_Reader__number_s1 vr vat q.1 q.2) (0, 0))
theorem wire_Reader__number_w (vr : Twire_Reader) (vat : Int) (r : (Int × Int × Int)) (h : wire_Reader__number_g vr vat = some r) : Holds Try.prog 53 [(.ref 1000 0 0), (I vat)] [(1000, some ⟨81, 3, [(encTwire_Reader vr)]⟩)] (.tup [(U64 r.1), (I r.2.1), (I r.2.2)]) [(1000, some ⟨81, 3, [(encTwire_Reader vr)]⟩)] := by
  unfold wire_Reader__number_g at h
  refine holds_fn Try.func53 rfl Try.ntmps53 rfl rfl rfl ?_
  refine awp_seq ?_
  refine awp_go hmix ?_
  refine go_run' ttok 3 rfl ?_
  refine go_nil nd ?_
  refine then_norm ?_
  refine awp_seq ?_
  refine awp_go hmix ?_
  refine go_run' ttok 1 rfl ?_
  refine go_nil nd ?_
  refine then_norm ?_
  refine awp_seq ?_
  refine awp_go hmix ?_
  refine go_run' ttok 1 rfl ?_
  refine go_nil nd ?_
  refine then_norm ?_
  refine awp_block ?_
  refine awp_loopD (X := (Int × Int)) (Y := (Int × Int × Int)) [0, 1] [1000] (fun q => [(7, (U64 q.1)), (8, (I q.2))]) (fun q => []) (fun q => wire_Reader__number_s1 vr vat q.1 q.2) (0, 0) [(1000, some 1000)] h ⟨rfl, rfl, rfl, rfl, rfl, ⟨wkP_id _ rfl, wkP_id _ rfl, trivial⟩, trivial⟩ (fun x vR vz hz1 hk2 => ?_)
  obtain ⟨n, i⟩ := x
  change wire_Reader__number_s1 vr vat n i = _ at hz1
  unfold wire_Reader__number_s1 at hz1
  refine awp_seq ?_
  refine awp_block ?_
  refine awp_seq ?_
  refine awp_seq ?_
  refine awp_go hmix ?_
  refine go_run' ttok 4 rfl ?_
  refine go_step rfl (as_nilCheck rfl rfl) rfl rfl rfl ?_
  refine go_run' ttok 4 rfl ?_
  refine go_nil nd ?_
  refine then_norm ?_
  refine awp_cond (b := (decide (((vr.s.size : Nat) : Int) ≤ (W64 (vat + i))))) rfl (fun c3 => ?_) (fun c3 => ?_)
  · replace hz1 := of_bif_t hz1 c3
    refine awp_seq ?_
    refine awp_go hmix ?_
    refine go_run' ttok 3 rfl ?_
    refine go_nil nd ?_
    refine then_norm ?_
    refine awp_ret ?_
    refine then_ret ?_
    refine block_ret ?_
    refine then_ret ?_
    obtain ⟨t, hn4, hq⟩ := of_mapr' hz1
    subst hq
    have hq : t = _ := hk2
    subst hq
    refine then_ret ?_
    refine block_ret ?_
    have e5 := of_some hn4
    subst e5
    refine ret_ret ?_
    exact finB [(1000, some 1000)] ttok rfl rfl rfl rfl (wkP_refl _ rfl) ⟨⟨_, rfl, rfl, rfl, .inl ⟨rfl, nr_one rfl⟩⟩, trivial⟩
  · replace hz1 := of_bif_f hz1 c3
    refine awp_skip ?_
    refine then_norm ?_
    refine awp_seq ?_
    refine awp_go hmix ?_
    refine go_run' ttok 1 rfl ?_
    refine go_step rfl (as_nilCheck rfl rfl) rfl rfl rfl ?_
    refine go_run' ttok 5 rfl ?_
    obtain ⟨c, hv6, hz1⟩ := of_obind hz1
    refine go_indexB vr.s (W64 (vat + i)) c hv6 ttok rfl rfl rfl rfl rfl rfl rfl ?_
    refine go_run' ttok 1 rfl ?_
    refine go_nil nd ?_
    refine then_norm ?_
    obtain ⟨y, hx7, hz1⟩ := of_obind hz1
    refine awp_seqJ (X := Unit) [0, 1, 7, 8, 9] [1000] (fun _ => []) (fun _ => []) (fun w => Sum.inr w = y) rfl rfl ?_ ?_
    · skip
      refine awp_seq ?_
      refine awp_go hmix ?_
      refine go_run' ttok 3 rfl ?_
      refine go_gcase rfl rfl rfl (fun g9 => ?_) (fun g9 => ?_)
      · rw [g9]
        replace hx7 := of_bif_t hx7 g9
        refine go_run' ttok 3 rfl ?_
        refine go_nil nd ?_
        refine then_norm ?_
        refine awp_cond (b := (decide (1 < c))) rfl (fun c10 => ?_) (fun c10 => ?_)
        · replace hx7 := of_bif_t hx7 c10
          refine awp_seq ?_
          refine awp_go hmix ?_
          refine go_run' ttok 3 rfl ?_
          refine go_nil nd ?_
          refine then_norm ?_
          refine awp_ret ?_
          obtain ⟨t1, hn11, hq⟩ := of_mapl' hx7
          subst hq
          have hq := of_inl hz1
          replace hq := of_some hq
          subst hq
          refine then_ret ?_
          refine block_ret ?_
          refine then_ret ?_
          obtain ⟨t2, hn12, hq⟩ := of_mapr' hn11
          subst hq
          have hq : t2 = _ := hk2
          subst hq
          refine then_ret ?_
          refine block_ret ?_
          have e13 := of_some hn12
          subst e13
          refine ret_ret ?_
          exact finB [(1000, some 1000)] ttok rfl rfl rfl rfl (wkP_refl _ rfl) ⟨⟨_, rfl, rfl, rfl, .inl ⟨rfl, nr_one rfl⟩⟩, trivial⟩
        · replace hx7 := of_bif_f hx7 c10
          refine awp_skip ?_
          have e14 := of_some hx7
          refine then_norm ⟨rfl, (), [(1000, some 1000)], ⟨rfl, rfl, rfl, rfl, rfl, trivial, trivial⟩, e14⟩
      · rw [g9]
        replace hx7 := of_bif_f hx7 g9
        refine go_run' ttok 3 rfl ?_
        refine go_nil nd ?_
        refine then_norm ?_
        refine awp_cond rfl (fun h => by cases h) (fun tt0 => ?_)
        clear tt0
        refine awp_skip ?_
        have e15 := of_some hx7
        refine then_norm ⟨rfl, (), [(1000, some 1000)], ⟨rfl, rfl, rfl, rfl, rfl, trivial, trivial⟩, e15⟩
    · intro w hw8
      subst hw8
      replace hz1 := of_inr hz1
      refine awp_seq ?_
      refine awp_go hmix ?_
      refine go_run' ttok 6 rfl ?_
      obtain ⟨hd16, hz1⟩ := of_grd hz1
      refine go_shlT (WU64 (bAnd .u8 c 127)) (W64 (7 * i)) hd16 rfl rfl rfl rfl rfl ?_
      refine go_run' ttok 2 rfl ?_
      refine go_nil nd ?_
      refine then_norm ?_
      refine awp_seq ?_
      refine awp_seq ?_
      refine awp_go hmix ?_
      refine go_run' ttok 2 rfl ?_
      refine go_nil nd ?_
      refine then_norm ?_
      refine awp_cond (b := (decide (128 ≤ c))) rfl (fun c17 => ?_) (fun c17 => ?_)
      · replace hz1 := of_bif_t hz1 c17
        refine awp_exit ?_
        refine then_exit ?_
        refine block_here ?_
        refine then_norm ?_
        refine awp_go hmix ?_
        refine go_run' ttok 3 rfl ?_
        refine go_nil nd ?_
        have e18 := of_some hz1
        subst e18
        refine then_norm ⟨rfl, ((bOr .u64 n (bShl .u64 (WU64 (bAnd .u8 c 127)) (W64 (7 * i)))), (W64 (i + 1))), [(1000, some 1000)], ⟨rfl, rfl, rfl, rfl, rfl, ⟨wkP_id _ rfl, wkP_id _ rfl, trivial⟩, trivial⟩, hk2⟩
      · replace hz1 := of_bif_f hz1 c17
        refine awp_skip ?_
        refine then_norm ?_
        refine awp_seq ?_
        refine awp_seq ?_
        refine awp_go hmix ?_
        refine go_run' ttok 3 rfl ?_
        refine go_gcase rfl rfl rfl (fun g19 => ?_) (fun g19 => ?_)
        · rw [g19]
          replace hz1 := of_bif_t hz1 g19
          refine go_run' ttok 3 rfl ?_
          refine go_nil nd ?_
          refine then_norm ?_
          refine awp_cond (b := (decide (0 < i))) rfl (fun c20 => ?_) (fun c20 => ?_)
          · replace hz1 := of_bif_t hz1 c20
            refine awp_seq ?_
            refine awp_go hmix ?_
            refine go_run' ttok 3 rfl ?_
            refine go_nil nd ?_
            refine then_norm ?_
            refine awp_ret ?_
            refine then_ret ?_
            refine block_ret ?_
            refine then_ret ?_
            obtain ⟨t3, hn21, hq⟩ := of_mapr' hz1
            subst hq
            have hq : t3 = _ := hk2
            subst hq
            refine then_ret ?_
            refine block_ret ?_
            have e22 := of_some hn21
            subst e22
            refine ret_ret ?_
            exact finB [(1000, some 1000)] ttok rfl rfl rfl rfl (wkP_refl _ rfl) ⟨⟨_, rfl, rfl, rfl, .inl ⟨rfl, nr_one rfl⟩⟩, trivial⟩
          · replace hz1 := of_bif_f hz1 c20
            refine awp_skip ?_
            refine then_norm ?_
            refine awp_seq ?_
            refine awp_go hmix ?_
            refine go_run' ttok 8 rfl ?_
            refine go_nil nd ?_
            refine then_norm ?_
            refine awp_ret ?_
            refine block_ret ?_
            refine then_ret ?_
            obtain ⟨t4, hn23, hq⟩ := of_mapr' hz1
            subst hq
            have hq : t4 = _ := hk2
            subst hq
            refine then_ret ?_
            refine block_ret ?_
            have e24 := of_some hn23
            subst e24
            refine ret_ret ?_
            exact finB [(1000, some 1000)] ttok rfl rfl rfl rfl (wkP_refl _ rfl) ⟨⟨_, rfl, rfl, rfl, .inl ⟨rfl, nr_one rfl⟩⟩, trivial⟩
        · rw [g19]
          replace hz1 := of_bif_f hz1 g19
          refine go_run' ttok 3 rfl ?_
          refine go_nil nd ?_
          refine then_norm ?_
          refine awp_cond rfl (fun h => by cases h) (fun tt0 => ?_)
          clear tt0
          refine awp_skip ?_
          refine then_norm ?_
          refine awp_seq ?_
          refine awp_go hmix ?_
          refine go_run' ttok 8 rfl ?_
          refine go_nil nd ?_
          refine then_norm ?_
          refine awp_ret ?_
          refine block_ret ?_
          refine then_ret ?_
          obtain ⟨t5, hn25, hq⟩ := of_mapr' hz1
          subst hq
          have hq : t5 = _ := hk2
          subst hq
          refine then_ret ?_
          refine block_ret ?_
          have e26 := of_some hn25
          subst e26
          refine ret_ret ?_
          exact finB [(1000, some 1000)] ttok rfl rfl rfl rfl (wkP_refl _ rfl) ⟨⟨_, rfl, rfl, rfl, .inl ⟨rfl, nr_one rfl⟩⟩, trivial⟩
noncomputable def wire_Reader__number_cs1 (N : Nat) (vr : Twire_Reader) (vat : Int) (n : Int) (i : Int) : Option ((Int × Int) ⊕ (Int × Int × Int)) :=
  (bif (decide (((vr.s.size : Nat) : Int) ≤ (W64 (vat + i)))) then some (Sum.inr (0, 0, 3)) else (Option.bind (bytO vr.s (W64 (vat + i))) (fun c => (Option.bind ((bif (i == 9) then (bif (decide (1 < c)) then some (Sum.inl (Sum.inr (0, 0, 5))) else some (Sum.inr ())) else some (Sum.inr ())) : Option (((Int × Int) ⊕ (Int × Int × Int)) ⊕ Unit)) (Sum.elim (fun q => some q) (fun _ => (bif decide (0 ≤ (W64 (7 * i))) then (bif (decide (128 ≤ c)) then some (Sum.inl ((bOr .u64 n (bShl .u64 (WU64 (bAnd .u8 c 127)) (W64 (7 * i)))), (W64 (i + 1)))) else (bif (c == 0) then (bif (decide (0 < i)) then some (Sum.inr (0, 0, 5)) else some (Sum.inr ((bOr .u64 n (bShl .u64 (WU64 (bAnd .u8 c 127)) (W64 (7 * i)))), (W64 ((W64 (vat + i)) + 1)), 0))) else some (Sum.inr ((bOr .u64 n (bShl .u64 (WU64 (bAnd .u8 c 127)) (W64 (7 * i)))), (W64 ((W64 (vat + i)) + 1)), 0)))) else none)))))))
theorem wire_Reader__number_cs1_le (N : Nat) (vr : Twire_Reader) (vat : Int) (n : Int) (i : Int) : OLe (wire_Reader__number_cs1 N vr vat n i) (wire_Reader__number_s1 vr vat n i) := by
  unfold wire_Reader__number_cs1 wire_Reader__number_s1
  repeat' (first | exact ole_rfl | refine ole_bif ?_ ?_ | refine ole_bind ?_ (fun _ => ?_) | refine ole_let (fun _ => ?_) | refine ole_map ?_ | refine ole_elim (fun _ => ?_) (fun _ => ?_) | refine ole_loop (fun _ => ?_))
noncomputable def wire_Reader__number_c (N : Nat) (vr : Twire_Reader) (vat : Int) : Option (Int × Int × Int) :=
  (iterX N (fun q => wire_Reader__number_cs1 N vr vat q.1 q.2) (0, 0))
theorem wire_Reader__number_le (N : Nat) (vr : Twire_Reader) (vat : Int) : OLe (wire_Reader__number_c N vr vat) (wire_Reader__number_g vr vat) := by
  unfold wire_Reader__number_c wire_Reader__number_g
  repeat' (first | exact ole_rfl | exact wire_Reader__number_cs1_le _ _ _ _ _ | refine ole_bif ?_ ?_ | refine ole_bind ?_ (fun _ => ?_) | refine ole_let (fun _ => ?_) | refine ole_map ?_ | refine ole_elim (fun _ => ?_) (fun _ => ?_) | refine ole_loop (fun _ => ?_))

/-- (*sawmill/wire.Reader).done -/
noncomputable def wire_Reader__done_g (vr : Twire_Reader) (vend : Int) (e : Int) : Twire_Reader :=
  (bif (e != 0) then (⟨vr.s, vr.at_, e⟩ : Twire_Reader) else (⟨vr.s, vend, vr.e⟩ : Twire_Reader))
theorem wire_Reader__done_w (vr : Twire_Reader) (vend : Int) (e : Int) (r : Twire_Reader) (h : wire_Reader__done_g vr vend e = r) : Holds Try.prog 47 [(.ref 1000 0 0), (I vend), (I e)] [(1000, some ⟨81, 3, [(encTwire_Reader vr)]⟩)] (.tup []) [(1000, some ⟨81, 3, [(encTwire_Reader r)]⟩)] := by
  unfold wire_Reader__done_g at h
  refine holds_fn Try.func47 rfl Try.ntmps47 rfl rfl rfl ?_
  refine awp_seq ?_
  refine awp_seq ?_
  refine awp_go hmix ?_
  refine go_run' ttok 2 rfl ?_
  refine go_nil nd ?_
  refine then_norm ?_
  refine awp_cond (b := (e != 0)) rfl (fun c1 => ?_) (fun c1 => ?_)
  · replace h := of_bif_t h c1
    refine awp_seq ?_
    refine awp_go hmix ?_
    refine go_run' ttok 2 rfl ?_
    refine go_step rfl (as_nilCheck rfl rfl) rfl rfl rfl ?_
    refine go_run' ttok 2 rfl ?_
    refine go_nil nd ?_
    refine then_norm ?_
    refine awp_ret ?_
    refine then_ret ?_
    have e2 := h
    subst e2
    refine ret_ret ?_
    exact finB [(1000, some 1000)] ttok rfl rfl rfl rfl (wkP_refl _ rfl) ⟨⟨_, rfl, rfl, rfl, .inl ⟨rfl, nr_one rfl⟩⟩, trivial⟩
  · replace h := of_bif_f h c1
    refine awp_skip ?_
    refine then_norm ?_
    refine awp_go hmix ?_
    refine go_run' ttok 2 rfl ?_
    refine go_step rfl (as_nilCheck rfl rfl) rfl rfl rfl ?_
    refine go_run' ttok 2 rfl ?_
    refine go_nil nd ?_
    have e3 := h
    subst e3
    refine ret_norm ?_
    exact finB [(1000, some 1000)] ttok rfl rfl rfl rfl (wkP_refl _ rfl) ⟨⟨_, rfl, rfl, rfl, .inl ⟨rfl, nr_one rfl⟩⟩, trivial⟩

/-- (*sawmill/wire.Reader).Uint -/
noncomputable def wire_Reader__Uint_g (vr : Twire_Reader) : Option (Int × Twire_Reader) :=
  (bif (wire_Reader__stopped_g vr) then some (0, vr) else (Option.bind (wire_Reader__number_g vr vr.at_) (fun nv => (letB (wire_Reader__done_g vr nv.2.1 nv.2.2) (fun dv => some (nv.1, dv))))))
theorem wire_Reader__Uint_w (vr : Twire_Reader) (r : (Int × Twire_Reader)) (h : wire_Reader__Uint_g vr = some r) : Holds Try.prog 42 [(.ref 1000 0 0)] [(1000, some ⟨81, 3, [(encTwire_Reader vr)]⟩)] (U64 r.1) [(1000, some ⟨81, 3, [(encTwire_Reader r.2)]⟩)] := by
  unfold wire_Reader__Uint_g at h
  refine holds_fn Try.func42 rfl Try.ntmps42 rfl rfl rfl ?_
  refine awp_seq ?_
  refine awp_go hmix ?_
  refine go_run' ttok 1 rfl ?_
  refine go_nil nd ?_
  refine then_norm ?_
  refine awp_seq ?_
  refine awp_seq ?_
  refine awp_go hmix ?_
  refine go_run' ttok 1 rfl ?_
  refine go_callM (B (wire_Reader__stopped_g vr)) [] [(1000, some ⟨81, 3, [(.agg [(S vr.s), (I vr.at_), (I vr.e)])]⟩)] [(1000, some 1000)] [(1000, some 1000)] fn45 (wire_Reader__stopped_w vr _ rfl) rfl rfl rfl rfl rfl trivial ⟨⟨rfl, rfl, rfl⟩, trivial⟩ rfl rfl ⟨⟨_, rfl, rfl, rfl, .inl ⟨rfl, nr_one rfl⟩⟩, trivial⟩ rfl rfl ⟨⟨_, rfl, rfl, rfl, .inl ⟨rfl, nr_one rfl⟩⟩, trivial⟩ (wkP_refl _ rfl) rfl (fun h => absurd rfl h) rfl rfl rfl ?_
  refine go_nil nd ?_
  refine then_norm ?_
  refine awp_cond (b := (wire_Reader__stopped_g vr)) rfl (fun c1 => ?_) (fun c1 => ?_)
  · replace h := of_bif_t h c1
    refine awp_seq ?_
    refine awp_go hmix ?_
    refine go_run' ttok 1 rfl ?_
    refine go_nil nd ?_
    refine then_norm ?_
    refine awp_ret ?_
    refine then_ret ?_
    have e2 := of_some h
    subst e2
    refine ret_ret ?_
    exact finB [(1000, some 1000)] ttok rfl rfl rfl rfl (wkP_refl _ rfl) ⟨⟨_, rfl, rfl, rfl, .inl ⟨rfl, nr_one rfl⟩⟩, trivial⟩
  · replace h := of_bif_f h c1
    refine awp_skip ?_
    refine then_norm ?_
    refine awp_seq ?_
    refine awp_go hmix ?_
    refine go_run' ttok 2 rfl ?_
    refine go_step rfl (as_nilCheck rfl rfl) rfl rfl rfl ?_
    refine go_run' ttok 2 rfl ?_
    obtain ⟨nv, hv3, h⟩ := of_obind h
    refine go_callM (.tup [(U64 nv.1), (I nv.2.1), (I nv.2.2)]) [] [(1000, some ⟨81, 3, [(.agg [(S vr.s), (I vr.at_), (I vr.e)])]⟩)] [(1000, some 1000)] [(1000, some 1000)] fn53 (wire_Reader__number_w vr vr.at_ nv hv3) rfl rfl rfl rfl rfl trivial ⟨⟨rfl, rfl, rfl⟩, (wkP_refl _ rfl), trivial⟩ rfl rfl ⟨⟨_, rfl, rfl, rfl, .inl ⟨rfl, nr_one rfl⟩⟩, trivial⟩ rfl rfl ⟨⟨_, rfl, rfl, rfl, .inl ⟨rfl, nr_one rfl⟩⟩, trivial⟩ (wkP_refl _ rfl) rfl (fun h => absurd rfl h) rfl rfl rfl ?_
    refine go_run' ttok 7 rfl ?_
    refine go_nil nd ?_
    refine then_norm ?_
    refine awp_seq ?_
    refine awp_go hmix ?_
    refine go_run' ttok 3 rfl ?_
    obtain ⟨dv, hv4, h⟩ := of_let h
    refine go_callM (.tup []) [] [(1000, some ⟨81, 3, [(.agg [(S dv.s), (I dv.at_), (I dv.e)])]⟩)] [(1000, some 1000)] [(1000, some 1000)] fn47 (wire_Reader__done_w vr nv.2.1 nv.2.2 dv hv4) rfl rfl rfl rfl rfl trivial ⟨⟨rfl, rfl, rfl⟩, (wkP_refl _ rfl), (wkP_refl _ rfl), trivial⟩ rfl rfl ⟨⟨_, rfl, rfl, rfl, .inl ⟨rfl, nr_one rfl⟩⟩, trivial⟩ rfl rfl ⟨⟨_, rfl, rfl, rfl, .inl ⟨rfl, nr_one rfl⟩⟩, trivial⟩ (wkP_refl _ rfl) rfl (fun h => absurd rfl h) rfl rfl rfl ?_
    refine go_nil nd ?_
    refine then_norm ?_
    refine awp_seq ?_
    refine awp_go hmix ?_
    refine go_run' ttok 2 rfl ?_
    refine go_nil nd ?_
    refine then_norm ?_
    refine awp_ret ?_
    have e5 := of_some h
    subst e5
    refine ret_ret ?_
    exact finB [(1000, some 1000)] ttok rfl rfl rfl rfl (wkP_refl _ rfl) ⟨⟨_, rfl, rfl, rfl, .inl ⟨rfl, nr_one rfl⟩⟩, trivial⟩
noncomputable def wire_Reader__Uint_c (N : Nat) (vr : Twire_Reader) : Option (Int × Twire_Reader) :=
  (bif (wire_Reader__stopped_g vr) then some (0, vr) else (Option.bind ((wire_Reader__number_c N) vr vr.at_) (fun nv => (letB (wire_Reader__done_g vr nv.2.1 nv.2.2) (fun dv => some (nv.1, dv))))))
theorem wire_Reader__Uint_le (N : Nat) (vr : Twire_Reader) : OLe (wire_Reader__Uint_c N vr) (wire_Reader__Uint_g vr) := by
  unfold wire_Reader__Uint_c wire_Reader__Uint_g
  repeat' (first | exact ole_rfl | exact wire_Reader__number_le _ _ _ | refine ole_bif ?_ ?_ | refine ole_bind ?_ (fun _ => ?_) | refine ole_let (fun _ => ?_) | refine ole_map ?_ | refine ole_elim (fun _ => ?_) (fun _ => ?_) | refine ole_loop (fun _ => ?_))

/-- (*sawmill/wire.Reader).Uint -/
noncomputable def wire_Reader__Uint_nil_g : Int :=
  0
theorem wire_Reader__Uint_nil_w (r : Int) (h : wire_Reader__Uint_nil_g = r) : Holds Try.prog 42 [(.sc (.pointer none))] [] (U64 r) [] := by
  unfold wire_Reader__Uint_nil_g at h
  refine holds_fn Try.func42 rfl Try.ntmps42 rfl rfl rfl ?_
  refine awp_seq ?_
  refine awp_go hmix ?_
  refine go_run' ttok 1 rfl ?_
  refine go_nil nd ?_
  refine then_norm ?_
  refine awp_seq ?_
  refine awp_seq ?_
  refine awp_go hmix ?_
  refine go_run' ttok 1 rfl ?_
  refine go_call fn45 (wire_Reader__stopped_nil_w true rfl) rfl rfl rfl rfl rfl rfl rfl ?_
  refine go_nil nd ?_
  refine then_norm ?_
  refine awp_cond rfl (fun tt0 => ?_) (fun h => by cases h)
  clear tt0
  refine awp_seq ?_
  refine awp_go hmix ?_
  refine go_run' ttok 1 rfl ?_
  refine go_nil nd ?_
  refine then_norm ?_
  refine awp_ret ?_
  refine then_ret ?_
  have e1 := h
  subst e1
  refine ret_ret ?_
  refine fin0 ttok rfl rfl ?_
  exact (wkP_refl _ rfl)

/-- (*sawmill/wire.Reader).signed -/
noncomputable def wire_Reader__signed_g (vr : Twire_Reader) (vat : Int) (low : Int) (high : Int) : Option (Int × Int × Int) :=
  (Option.bind (wire_Reader__number_g vr vat) (fun nv => (bif (nv.2.2 != 0) then some (0, 0, nv.2.2) else (letB ((bif ((bAnd .u64 nv.1 1) == 1) then (bNot .i64 (W64 (bShr .u64 nv.1 1))) else (W64 (bShr .u64 nv.1 1))) : Int) (fun n => (bif (decide (n < low)) then some (0, 0, 9) else (bif (decide (high < n)) then some (0, 0, 9) else some (n, nv.2.1, 0))))))))
theorem wire_Reader__signed_w (vr : Twire_Reader) (vat : Int) (low : Int) (high : Int) (r : (Int × Int × Int)) (h : wire_Reader__signed_g vr vat low high = some r) : Holds Try.prog 46 [(.ref 1000 0 0), (I vat), (I low), (I high)] [(1000, some ⟨81, 3, [(encTwire_Reader vr)]⟩)] (.tup [(I r.1), (I r.2.1), (I r.2.2)]) [(1000, some ⟨81, 3, [(encTwire_Reader vr)]⟩)] := by
  unfold wire_Reader__signed_g at h
  refine holds_fn Try.func46 rfl Try.ntmps46 rfl rfl rfl ?_
  refine awp_seq ?_
  refine awp_go hmix ?_
  refine go_run' ttok 3 rfl ?_
  refine go_nil nd ?_
  refine then_norm ?_
  refine awp_seq ?_
  refine awp_go hmix ?_
  refine go_run' ttok 2 rfl ?_
  obtain ⟨nv, hv1, h⟩ := of_obind h
  refine go_callM (.tup [(U64 nv.1), (I nv.2.1), (I nv.2.2)]) [] [(1000, some ⟨81, 3, [(.agg [(S vr.s), (I vr.at_), (I vr.e)])]⟩)] [(1000, some 1000)] [(1000, some 1000)] fn53 (wire_Reader__number_w vr vat nv hv1) rfl rfl rfl rfl rfl trivial ⟨⟨rfl, rfl, rfl⟩, (wkP_refl _ rfl), trivial⟩ rfl rfl ⟨⟨_, rfl, rfl, rfl, .inl ⟨rfl, nr_one rfl⟩⟩, trivial⟩ rfl rfl ⟨⟨_, rfl, rfl, rfl, .inl ⟨rfl, nr_one rfl⟩⟩, trivial⟩ (wkP_refl _ rfl) rfl (fun h => absurd rfl h) rfl rfl rfl ?_
  refine go_run' ttok 7 rfl ?_
  refine go_nil nd ?_
  refine then_norm ?_
  refine awp_seq ?_
  refine awp_seq ?_
  refine awp_go hmix ?_
  refine go_run' ttok 2 rfl ?_
  refine go_nil nd ?_
  refine then_norm ?_
  refine awp_cond (b := (nv.2.2 != 0)) rfl (fun c2 => ?_) (fun c2 => ?_)
  · replace h := of_bif_t h c2
    refine awp_seq ?_
    refine awp_go hmix ?_
    refine go_run' ttok 4 rfl ?_
    refine go_nil nd ?_
    refine then_norm ?_
    refine awp_ret ?_
    refine then_ret ?_
    have e3 := of_some h
    subst e3
    refine ret_ret ?_
    exact finB [(1000, some 1000)] ttok rfl rfl rfl rfl (wkP_refl _ rfl) ⟨⟨_, rfl, rfl, rfl, .inl ⟨rfl, nr_one rfl⟩⟩, trivial⟩
  · replace h := of_bif_f h c2
    refine awp_skip ?_
    refine then_norm ?_
    refine awp_seq ?_
    refine awp_go hmix ?_
    refine go_run' ttok 4 rfl ?_
    refine go_nil nd ?_
    refine then_norm ?_
    obtain ⟨y, hx4, h⟩ := of_let h
    refine awp_seqJ (X := Int) [2, 3, 12] [1000] (fun w => [(14, (I w))]) (fun w => []) (fun w => w = y) rfl rfl ?_ ?_
    · skip
      refine awp_seq ?_
      refine awp_go hmix ?_
      refine go_run' ttok 3 rfl ?_
      refine go_nil nd ?_
      refine then_norm ?_
      refine awp_cond (b := ((bAnd .u64 nv.1 1) == 1)) rfl (fun c6 => ?_) (fun c6 => ?_)
      · replace hx4 := of_bif_t hx4 c6
        refine awp_go hmix ?_
        refine go_run' ttok 3 rfl ?_
        refine go_nil nd ?_
        have e7 := hx4
        refine then_norm ⟨rfl, (bNot .i64 (W64 (bShr .u64 nv.1 1))), [(1000, some 1000)], ⟨rfl, rfl, rfl, rfl, rfl, ⟨wkP_id _ rfl, trivial⟩, trivial⟩, e7⟩
      · replace hx4 := of_bif_f hx4 c6
        refine awp_skip ?_
        have e8 := hx4
        refine then_norm ⟨rfl, (W64 (bShr .u64 nv.1 1)), [(1000, some 1000)], ⟨rfl, rfl, rfl, rfl, rfl, ⟨wkP_id _ rfl, trivial⟩, trivial⟩, e8⟩
    · intro n hw5
      subst hw5
      refine awp_seq ?_
      refine awp_seq ?_
      refine awp_go hmix ?_
      refine go_run' ttok 4 rfl ?_
      refine go_gcase rfl rfl rfl (fun g9 => ?_) (fun g9 => ?_)
      · rw [g9]
        replace h := of_bif_t h g9
        refine go_run' ttok 4 rfl ?_
        refine go_nil nd ?_
        refine then_norm ?_
        refine awp_cond rfl (fun tt0 => ?_) (fun h => by cases h)
        clear tt0
        refine awp_seq ?_
        refine awp_go hmix ?_
        refine go_run' ttok 3 rfl ?_
        refine go_nil nd ?_
        refine then_norm ?_
        refine awp_ret ?_
        refine then_ret ?_
        have e10 := of_some h
        subst e10
        refine ret_ret ?_
        exact finB [(1000, some 1000)] ttok rfl rfl rfl rfl (wkP_refl _ rfl) ⟨⟨_, rfl, rfl, rfl, .inl ⟨rfl, nr_one rfl⟩⟩, trivial⟩
      · rw [g9]
        replace h := of_bif_f h g9
        refine go_run' ttok 4 rfl ?_
        refine go_nil nd ?_
        refine then_norm ?_
        refine awp_cond (b := (decide (high < n))) rfl (fun c11 => ?_) (fun c11 => ?_)
        · replace h := of_bif_t h c11
          refine awp_seq ?_
          refine awp_go hmix ?_
          refine go_run' ttok 3 rfl ?_
          refine go_nil nd ?_
          refine then_norm ?_
          refine awp_ret ?_
          refine then_ret ?_
          have e12 := of_some h
          subst e12
          refine ret_ret ?_
          exact finB [(1000, some 1000)] ttok rfl rfl rfl rfl (wkP_refl _ rfl) ⟨⟨_, rfl, rfl, rfl, .inl ⟨rfl, nr_one rfl⟩⟩, trivial⟩
        · replace h := of_bif_f h c11
          refine awp_skip ?_
          refine then_norm ?_
          refine awp_seq ?_
          refine awp_go hmix ?_
          refine go_run' ttok 5 rfl ?_
          refine go_nil nd ?_
          refine then_norm ?_
          refine awp_ret ?_
          have e13 := of_some h
          subst e13
          refine ret_ret ?_
          exact finB [(1000, some 1000)] ttok rfl rfl rfl rfl (wkP_refl _ rfl) ⟨⟨_, rfl, rfl, rfl, .inl ⟨rfl, nr_one rfl⟩⟩, trivial⟩
noncomputable def wire_Reader__signed_c (N : Nat) (vr : Twire_Reader) (vat : Int) (low : Int) (high : Int) : Option (Int × Int × Int) :=
  (Option.bind ((wire_Reader__number_c N) vr vat) (fun nv => (bif (nv.2.2 != 0) then some (0, 0, nv.2.2) else (letB ((bif ((bAnd .u64 nv.1 1) == 1) then (bNot .i64 (W64 (bShr .u64 nv.1 1))) else (W64 (bShr .u64 nv.1 1))) : Int) (fun n => (bif (decide (n < low)) then some (0, 0, 9) else (bif (decide (high < n)) then some (0, 0, 9) else some (n, nv.2.1, 0))))))))
theorem wire_Reader__signed_le (N : Nat) (vr : Twire_Reader) (vat : Int) (low : Int) (high : Int) : OLe (wire_Reader__signed_c N vr vat low high) (wire_Reader__signed_g vr vat low high) := by
  unfold wire_Reader__signed_c wire_Reader__signed_g
  repeat' (first | exact ole_rfl | exact wire_Reader__number_le _ _ _ | refine ole_bif ?_ ?_ | refine ole_bind ?_ (fun _ => ?_) | refine ole_let (fun _ => ?_) | refine ole_map ?_ | refine ole_elim (fun _ => ?_) (fun _ => ?_) | refine ole_loop (fun _ => ?_))

/-- (*sawmill/wire.Reader).Int -/
noncomputable def wire_Reader__Int_g (vr : Twire_Reader) (low : Int) (high : Int) : Option (Int × Twire_Reader) :=
  (bif (wire_Reader__stopped_g vr) then some (0, vr) else (Option.bind (wire_Reader__signed_g vr vr.at_ low high) (fun sv => (letB (wire_Reader__done_g vr sv.2.1 sv.2.2) (fun dv => some (sv.1, dv))))))
theorem wire_Reader__Int_w (vr : Twire_Reader) (low : Int) (high : Int) (r : (Int × Twire_Reader)) (h : wire_Reader__Int_g vr low high = some r) : Holds Try.prog 22 [(.ref 1000 0 0), (I low), (I high)] [(1000, some ⟨81, 3, [(encTwire_Reader vr)]⟩)] (I r.1) [(1000, some ⟨81, 3, [(encTwire_Reader r.2)]⟩)] := by
  unfold wire_Reader__Int_g at h
  refine holds_fn Try.func22 rfl Try.ntmps22 rfl rfl rfl ?_
  refine awp_seq ?_
  refine awp_go hmix ?_
  refine go_run' ttok 1 rfl ?_
  refine go_nil nd ?_
  refine then_norm ?_
  refine awp_seq ?_
  refine awp_seq ?_
  refine awp_go hmix ?_
  refine go_run' ttok 1 rfl ?_
  refine go_callM (B (wire_Reader__stopped_g vr)) [] [(1000, some ⟨81, 3, [(.agg [(S vr.s), (I vr.at_), (I vr.e)])]⟩)] [(1000, some 1000)] [(1000, some 1000)] fn45 (wire_Reader__stopped_w vr _ rfl) rfl rfl rfl rfl rfl trivial ⟨⟨rfl, rfl, rfl⟩, trivial⟩ rfl rfl ⟨⟨_, rfl, rfl, rfl, .inl ⟨rfl, nr_one rfl⟩⟩, trivial⟩ rfl rfl ⟨⟨_, rfl, rfl, rfl, .inl ⟨rfl, nr_one rfl⟩⟩, trivial⟩ (wkP_refl _ rfl) rfl (fun h => absurd rfl h) rfl rfl rfl ?_
  refine go_nil nd ?_
  refine then_norm ?_
  refine awp_cond (b := (wire_Reader__stopped_g vr)) rfl (fun c1 => ?_) (fun c1 => ?_)
  · replace h := of_bif_t h c1
    refine awp_seq ?_
    refine awp_go hmix ?_
    refine go_run' ttok 1 rfl ?_
    refine go_nil nd ?_
    refine then_norm ?_
    refine awp_ret ?_
    refine then_ret ?_
    have e2 := of_some h
    subst e2
    refine ret_ret ?_
    exact finB [(1000, some 1000)] ttok rfl rfl rfl rfl (wkP_refl _ rfl) ⟨⟨_, rfl, rfl, rfl, .inl ⟨rfl, nr_one rfl⟩⟩, trivial⟩
  · replace h := of_bif_f h c1
    refine awp_skip ?_
    refine then_norm ?_
    refine awp_seq ?_
    refine awp_go hmix ?_
    refine go_run' ttok 2 rfl ?_
    refine go_step rfl (as_nilCheck rfl rfl) rfl rfl rfl ?_
    refine go_run' ttok 4 rfl ?_
    obtain ⟨sv, hv3, h⟩ := of_obind h
    refine go_callM (.tup [(I sv.1), (I sv.2.1), (I sv.2.2)]) [] [(1000, some ⟨81, 3, [(.agg [(S vr.s), (I vr.at_), (I vr.e)])]⟩)] [(1000, some 1000)] [(1000, some 1000)] fn46 (wire_Reader__signed_w vr vr.at_ low high sv hv3) rfl rfl rfl rfl rfl trivial ⟨⟨rfl, rfl, rfl⟩, (wkP_refl _ rfl), (wkP_refl _ rfl), (wkP_refl _ rfl), trivial⟩ rfl rfl ⟨⟨_, rfl, rfl, rfl, .inl ⟨rfl, nr_one rfl⟩⟩, trivial⟩ rfl rfl ⟨⟨_, rfl, rfl, rfl, .inl ⟨rfl, nr_one rfl⟩⟩, trivial⟩ (wkP_refl _ rfl) rfl (fun h => absurd rfl h) rfl rfl rfl ?_
    refine go_run' ttok 7 rfl ?_
    refine go_nil nd ?_
    refine then_norm ?_
    refine awp_seq ?_
    refine awp_go hmix ?_
    refine go_run' ttok 3 rfl ?_
    obtain ⟨dv, hv4, h⟩ := of_let h
    refine go_callM (.tup []) [] [(1000, some ⟨81, 3, [(.agg [(S dv.s), (I dv.at_), (I dv.e)])]⟩)] [(1000, some 1000)] [(1000, some 1000)] fn47 (wire_Reader__done_w vr sv.2.1 sv.2.2 dv hv4) rfl rfl rfl rfl rfl trivial ⟨⟨rfl, rfl, rfl⟩, (wkP_refl _ rfl), (wkP_refl _ rfl), trivial⟩ rfl rfl ⟨⟨_, rfl, rfl, rfl, .inl ⟨rfl, nr_one rfl⟩⟩, trivial⟩ rfl rfl ⟨⟨_, rfl, rfl, rfl, .inl ⟨rfl, nr_one rfl⟩⟩, trivial⟩ (wkP_refl _ rfl) rfl (fun h => absurd rfl h) rfl rfl rfl ?_
    refine go_nil nd ?_
    refine then_norm ?_
    refine awp_seq ?_
    refine awp_go hmix ?_
    refine go_run' ttok 2 rfl ?_
    refine go_nil nd ?_
    refine then_norm ?_
    refine awp_ret ?_
    have e5 := of_some h
    subst e5
    refine ret_ret ?_
    exact finB [(1000, some 1000)] ttok rfl rfl rfl rfl (wkP_refl _ rfl) ⟨⟨_, rfl, rfl, rfl, .inl ⟨rfl, nr_one rfl⟩⟩, trivial⟩
noncomputable def wire_Reader__Int_c (N : Nat) (vr : Twire_Reader) (low : Int) (high : Int) : Option (Int × Twire_Reader) :=
  (bif (wire_Reader__stopped_g vr) then some (0, vr) else (Option.bind ((wire_Reader__signed_c N) vr vr.at_ low high) (fun sv => (letB (wire_Reader__done_g vr sv.2.1 sv.2.2) (fun dv => some (sv.1, dv))))))
theorem wire_Reader__Int_le (N : Nat) (vr : Twire_Reader) (low : Int) (high : Int) : OLe (wire_Reader__Int_c N vr low high) (wire_Reader__Int_g vr low high) := by
  unfold wire_Reader__Int_c wire_Reader__Int_g
  repeat' (first | exact ole_rfl | exact wire_Reader__signed_le _ _ _ _ _ | refine ole_bif ?_ ?_ | refine ole_bind ?_ (fun _ => ?_) | refine ole_let (fun _ => ?_) | refine ole_map ?_ | refine ole_elim (fun _ => ?_) (fun _ => ?_) | refine ole_loop (fun _ => ?_))

/-- (*sawmill/wire.Reader).Int -/
noncomputable def wire_Reader__Int_nil_g (low : Int) (high : Int) : Int :=
  0
theorem wire_Reader__Int_nil_w (low : Int) (high : Int) (r : Int) (h : wire_Reader__Int_nil_g low high = r) : Holds Try.prog 22 [(.sc (.pointer none)), (I low), (I high)] [] (I r) [] := by
  unfold wire_Reader__Int_nil_g at h
  refine holds_fn Try.func22 rfl Try.ntmps22 rfl rfl rfl ?_
  refine awp_seq ?_
  refine awp_go hmix ?_
  refine go_run' ttok 1 rfl ?_
  refine go_nil nd ?_
  refine then_norm ?_
  refine awp_seq ?_
  refine awp_seq ?_
  refine awp_go hmix ?_
  refine go_run' ttok 1 rfl ?_
  refine go_call fn45 (wire_Reader__stopped_nil_w true rfl) rfl rfl rfl rfl rfl rfl rfl ?_
  refine go_nil nd ?_
  refine then_norm ?_
  refine awp_cond rfl (fun tt0 => ?_) (fun h => by cases h)
  clear tt0
  refine awp_seq ?_
  refine awp_go hmix ?_
  refine go_run' ttok 1 rfl ?_
  refine go_nil nd ?_
  refine then_norm ?_
  refine awp_ret ?_
  refine then_ret ?_
  have e1 := h
  subst e1
  refine ret_ret ?_
  refine fin0 ttok rfl rfl ?_
  exact (wkP_refl _ rfl)

/-- (*sawmill/wire.Reader).Err -/
noncomputable def wire_Reader__Err_g (vr : Twire_Reader) : Int :=
  vr.e
theorem wire_Reader__Err_w (vr : Twire_Reader) (r : Int) (h : wire_Reader__Err_g vr = r) : Holds Try.prog 34 [(.ref 1000 0 0)] [(1000, some ⟨81, 3, [(encTwire_Reader vr)]⟩)] (I r) [(1000, some ⟨81, 3, [(encTwire_Reader vr)]⟩)] := by
  unfold wire_Reader__Err_g at h
  refine holds_fn Try.func34 rfl Try.ntmps34 rfl rfl rfl ?_
  refine awp_seq ?_
  refine awp_go hmix ?_
  refine go_run' ttok 1 rfl ?_
  refine go_nil nd ?_
  refine then_norm ?_
  refine awp_seq ?_
  refine awp_seq ?_
  refine awp_go hmix ?_
  refine go_run' ttok 1 rfl ?_
  refine go_step rfl (as_refNil (.inl ⟨rfl, rfl⟩) rfl Try.underlying33 rfl rfl) rfl rfl rfl ?_
  refine go_nil nd ?_
  refine then_norm ?_
  refine awp_cond rfl (fun h => by cases h) (fun tt0 => ?_)
  clear tt0
  refine awp_skip ?_
  refine then_norm ?_
  refine awp_seq ?_
  refine awp_go hmix ?_
  refine go_run' ttok 1 rfl ?_
  refine go_step rfl (as_nilCheck rfl rfl) rfl rfl rfl ?_
  refine go_run' ttok 3 rfl ?_
  refine go_nil nd ?_
  refine then_norm ?_
  refine awp_ret ?_
  have e1 := h
  subst e1
  refine ret_ret ?_
  exact finB [(1000, some 1000)] ttok rfl rfl rfl rfl (wkP_refl _ rfl) ⟨⟨_, rfl, rfl, rfl, .inl ⟨rfl, nr_one rfl⟩⟩, trivial⟩

/-- (*sawmill/wire.Reader).Err -/
noncomputable def wire_Reader__Err_nil_g : Int :=
  1
theorem wire_Reader__Err_nil_w (r : Int) (h : wire_Reader__Err_nil_g = r) : Holds Try.prog 34 [(.sc (.pointer none))] [] (I r) [] := by
  unfold wire_Reader__Err_nil_g at h
  refine holds_fn Try.func34 rfl Try.ntmps34 rfl rfl rfl ?_
  refine awp_seq ?_
  refine awp_go hmix ?_
  refine go_run' ttok 1 rfl ?_
  refine go_nil nd ?_
  refine then_norm ?_
  refine awp_seq ?_
  refine awp_seq ?_
  refine awp_go hmix ?_
  refine go_run' ttok 1 rfl ?_
  refine go_step rfl (as_nilNil (.inl ⟨rfl, rfl⟩) rfl Try.underlying33 rfl rfl) rfl rfl rfl ?_
  refine go_nil nd ?_
  refine then_norm ?_
  refine awp_cond rfl (fun tt0 => ?_) (fun h => by cases h)
  clear tt0
  refine awp_seq ?_
  refine awp_go hmix ?_
  refine go_run' ttok 1 rfl ?_
  refine go_nil nd ?_
  refine then_norm ?_
  refine awp_ret ?_
  refine then_ret ?_
  have e1 := h
  subst e1
  refine ret_ret ?_
  refine fin0 ttok rfl rfl ?_
  exact (wkP_refl _ rfl)

/-- (*sawmill/wire.Reader).Left -/
noncomputable def wire_Reader__Left_g (vr : Twire_Reader) : Int :=
  (W64 (((vr.s.size : Nat) : Int) - vr.at_))
theorem wire_Reader__Left_w (vr : Twire_Reader) (r : Int) (h : wire_Reader__Left_g vr = r) : Holds Try.prog 24 [(.ref 1000 0 0)] [(1000, some ⟨81, 3, [(encTwire_Reader vr)]⟩)] (I r) [(1000, some ⟨81, 3, [(encTwire_Reader vr)]⟩)] := by
  unfold wire_Reader__Left_g at h
  refine holds_fn Try.func24 rfl Try.ntmps24 rfl rfl rfl ?_
  refine awp_seq ?_
  refine awp_go hmix ?_
  refine go_run' ttok 1 rfl ?_
  refine go_nil nd ?_
  refine then_norm ?_
  refine awp_seq ?_
  refine awp_seq ?_
  refine awp_go hmix ?_
  refine go_run' ttok 1 rfl ?_
  refine go_step rfl (as_refNil (.inl ⟨rfl, rfl⟩) rfl Try.underlying33 rfl rfl) rfl rfl rfl ?_
  refine go_nil nd ?_
  refine then_norm ?_
  refine awp_cond rfl (fun h => by cases h) (fun tt0 => ?_)
  clear tt0
  refine awp_skip ?_
  refine then_norm ?_
  refine awp_seq ?_
  refine awp_go hmix ?_
  refine go_run' ttok 1 rfl ?_
  refine go_step rfl (as_nilCheck rfl rfl) rfl rfl rfl ?_
  refine go_run' ttok 4 rfl ?_
  refine go_step rfl (as_nilCheck rfl rfl) rfl rfl rfl ?_
  refine go_run' ttok 4 rfl ?_
  refine go_nil (fun _ => by kernel_rfl) ?_
  refine then_norm ?_
  refine awp_ret ?_
  have e1 := h
  subst e1
  refine ret_ret ?_
  exact finB [(1000, some 1000)] ttok rfl rfl rfl rfl (wkP_refl _ rfl) ⟨⟨_, rfl, rfl, rfl, .inl ⟨rfl, nr_one rfl⟩⟩, trivial⟩

/-- (*sawmill/wire.Reader).Left -/
noncomputable def wire_Reader__Left_nil_g : Int :=
  0
theorem wire_Reader__Left_nil_w (r : Int) (h : wire_Reader__Left_nil_g = r) : Holds Try.prog 24 [(.sc (.pointer none))] [] (I r) [] := by
  unfold wire_Reader__Left_nil_g at h
  refine holds_fn Try.func24 rfl Try.ntmps24 rfl rfl rfl ?_
  refine awp_seq ?_
  refine awp_go hmix ?_
  refine go_run' ttok 1 rfl ?_
  refine go_nil nd ?_
  refine then_norm ?_
  refine awp_seq ?_
  refine awp_seq ?_
  refine awp_go hmix ?_
  refine go_run' ttok 1 rfl ?_
  refine go_step rfl (as_nilNil (.inl ⟨rfl, rfl⟩) rfl Try.underlying33 rfl rfl) rfl rfl rfl ?_
  refine go_nil nd ?_
  refine then_norm ?_
  refine awp_cond rfl (fun tt0 => ?_) (fun h => by cases h)
  clear tt0
  refine awp_seq ?_
  refine awp_go hmix ?_
  refine go_run' ttok 1 rfl ?_
  refine go_nil nd ?_
  refine then_norm ?_
  refine awp_ret ?_
  refine then_ret ?_
  have e1 := h
  subst e1
  refine ret_ret ?_
  refine fin0 ttok rfl rfl ?_
  exact (wkP_refl _ rfl)

/-- (*sawmill/wire.Reader).End -/
noncomputable def wire_Reader__End_g (vr : Twire_Reader) : Int :=
  (bif ((wire_Reader__Err_g vr) != 0) then (wire_Reader__Err_g vr) else (bif (decide (0 < (wire_Reader__Left_g vr))) then 4 else 0))
theorem wire_Reader__End_w (vr : Twire_Reader) (r : Int) (h : wire_Reader__End_g vr = r) : Holds Try.prog 23 [(.ref 1000 0 0)] [(1000, some ⟨81, 3, [(encTwire_Reader vr)]⟩)] (I r) [(1000, some ⟨81, 3, [(encTwire_Reader vr)]⟩)] := by
  unfold wire_Reader__End_g at h
  refine holds_fn Try.func23 rfl Try.ntmps23 rfl rfl rfl ?_
  refine awp_seq ?_
  refine awp_go hmix ?_
  refine go_run' ttok 1 rfl ?_
  refine go_nil nd ?_
  refine then_norm ?_
  refine awp_seq ?_
  refine awp_seq ?_
  refine awp_go hmix ?_
  refine go_run' ttok 1 rfl ?_
  refine go_callM (I (wire_Reader__Err_g vr)) [] [(1000, some ⟨81, 3, [(.agg [(S vr.s), (I vr.at_), (I vr.e)])]⟩)] [(1000, some 1000)] [(1000, some 1000)] fn34 (wire_Reader__Err_w vr _ rfl) rfl rfl rfl rfl rfl trivial ⟨⟨rfl, rfl, rfl⟩, trivial⟩ rfl rfl ⟨⟨_, rfl, rfl, rfl, .inl ⟨rfl, nr_one rfl⟩⟩, trivial⟩ rfl rfl ⟨⟨_, rfl, rfl, rfl, .inl ⟨rfl, nr_one rfl⟩⟩, trivial⟩ (wkP_refl _ rfl) rfl (fun h => absurd rfl h) rfl rfl rfl ?_
  refine go_run' ttok 1 rfl ?_
  refine go_nil nd ?_
  refine then_norm ?_
  refine awp_seq ?_
  refine awp_go hmix ?_
  refine go_run' ttok 2 rfl ?_
  refine go_nil nd ?_
  refine then_norm ?_
  refine awp_cond (b := ((wire_Reader__Err_g vr) != 0)) rfl (fun c1 => ?_) (fun c1 => ?_)
  · replace h := of_bif_t h c1
    refine awp_seq ?_
    refine awp_go hmix ?_
    refine go_run' ttok 2 rfl ?_
    refine go_nil nd ?_
    refine then_norm ?_
    refine awp_ret ?_
    refine then_ret ?_
    have e2 := h
    subst e2
    refine ret_ret ?_
    exact finB [(1000, some 1000)] ttok rfl rfl rfl rfl (wkP_refl _ rfl) ⟨⟨_, rfl, rfl, rfl, .inl ⟨rfl, nr_one rfl⟩⟩, trivial⟩
  · replace h := of_bif_f h c1
    refine awp_skip ?_
    refine then_norm ?_
    refine awp_seq ?_
    refine awp_seq ?_
    refine awp_go hmix ?_
    refine go_run' ttok 1 rfl ?_
    refine go_callM (I (wire_Reader__Left_g vr)) [] [(1000, some ⟨81, 3, [(.agg [(S vr.s), (I vr.at_), (I vr.e)])]⟩)] [(1000, some 1000)] [(1000, some 1000)] fn24 (wire_Reader__Left_w vr _ rfl) rfl rfl rfl rfl rfl trivial ⟨⟨rfl, rfl, rfl⟩, trivial⟩ rfl rfl ⟨⟨_, rfl, rfl, rfl, .inl ⟨rfl, nr_one rfl⟩⟩, trivial⟩ rfl rfl ⟨⟨_, rfl, rfl, rfl, .inl ⟨rfl, nr_one rfl⟩⟩, trivial⟩ (wkP_refl _ rfl) rfl (fun h => absurd rfl h) rfl rfl rfl ?_
    refine go_run' ttok 1 rfl ?_
    refine go_nil nd ?_
    refine then_norm ?_
    refine awp_cond (b := (decide (0 < (wire_Reader__Left_g vr)))) rfl (fun c3 => ?_) (fun c3 => ?_)
    · replace h := of_bif_t h c3
      refine awp_seq ?_
      refine awp_go hmix ?_
      refine go_run' ttok 1 rfl ?_
      refine go_nil nd ?_
      refine then_norm ?_
      refine awp_ret ?_
      refine then_ret ?_
      have e4 := h
      subst e4
      refine ret_ret ?_
      exact finB [(1000, some 1000)] ttok rfl rfl rfl rfl (wkP_refl _ rfl) ⟨⟨_, rfl, rfl, rfl, .inl ⟨rfl, nr_one rfl⟩⟩, trivial⟩
    · replace h := of_bif_f h c3
      refine awp_skip ?_
      refine then_norm ?_
      refine awp_seq ?_
      refine awp_go hmix ?_
      refine go_run' ttok 1 rfl ?_
      refine go_nil nd ?_
      refine then_norm ?_
      refine awp_ret ?_
      have e5 := h
      subst e5
      refine ret_ret ?_
      exact finB [(1000, some 1000)] ttok rfl rfl rfl rfl (wkP_refl _ rfl) ⟨⟨_, rfl, rfl, rfl, .inl ⟨rfl, nr_one rfl⟩⟩, trivial⟩

/-- (*sawmill/wire.Reader).End -/
noncomputable def wire_Reader__End_nil_g : Int :=
  (bif (wire_Reader__Err_nil_g != 0) then wire_Reader__Err_nil_g else (bif (decide (0 < wire_Reader__Left_nil_g)) then 4 else 0))
theorem wire_Reader__End_nil_w (r : Int) (h : wire_Reader__End_nil_g = r) : Holds Try.prog 23 [(.sc (.pointer none))] [] (I r) [] := by
  unfold wire_Reader__End_nil_g at h
  refine holds_fn Try.func23 rfl Try.ntmps23 rfl rfl rfl ?_
  refine awp_seq ?_
  refine awp_go hmix ?_
  refine go_run' ttok 1 rfl ?_
  refine go_nil nd ?_
  refine then_norm ?_
  refine awp_seq ?_
  refine awp_seq ?_
  refine awp_go hmix ?_
  refine go_run' ttok 1 rfl ?_
  refine go_call fn34 (wire_Reader__Err_nil_w _ rfl) rfl rfl rfl rfl rfl rfl rfl ?_
  refine go_run' ttok 1 rfl ?_
  refine go_nil nd ?_
  refine then_norm ?_
  refine awp_seq ?_
  refine awp_go hmix ?_
  refine go_run' ttok 2 rfl ?_
  refine go_nil nd ?_
  refine then_norm ?_
  refine awp_cond (b := (wire_Reader__Err_nil_g != 0)) rfl (fun c1 => ?_) (fun c1 => ?_)
  · replace h := of_bif_t h c1
    refine awp_seq ?_
    refine awp_go hmix ?_
    refine go_run' ttok 2 rfl ?_
    refine go_nil nd ?_
    refine then_norm ?_
    refine awp_ret ?_
    refine then_ret ?_
    have e2 := h
    subst e2
    refine ret_ret ?_
    refine fin0 ttok rfl rfl ?_
    exact (wkP_refl _ rfl)
  · replace h := of_bif_f h c1
    refine awp_skip ?_
    refine then_norm ?_
    refine awp_seq ?_
    refine awp_seq ?_
    refine awp_go hmix ?_
    refine go_run' ttok 1 rfl ?_
    refine go_call fn24 (wire_Reader__Left_nil_w _ rfl) rfl rfl rfl rfl rfl rfl rfl ?_
    refine go_run' ttok 1 rfl ?_
    refine go_nil nd ?_
    refine then_norm ?_
    refine awp_cond (b := (decide (0 < wire_Reader__Left_nil_g))) rfl (fun c3 => ?_) (fun c3 => ?_)
    · replace h := of_bif_t h c3
      refine awp_seq ?_
      refine awp_go hmix ?_
      refine go_run' ttok 1 rfl ?_
      refine go_nil nd ?_
      refine then_norm ?_
      refine awp_ret ?_
      refine then_ret ?_
      have e4 := h
      subst e4
      refine ret_ret ?_
      refine fin0 ttok rfl rfl ?_
      exact (wkP_refl _ rfl)
    · replace h := of_bif_f h c3
      refine awp_skip ?_
      refine then_norm ?_
      refine awp_seq ?_
      refine awp_go hmix ?_
      refine go_run' ttok 1 rfl ?_
      refine go_nil nd ?_
      refine then_norm ?_
      refine awp_ret ?_
      have e5 := h
      subst e5
      refine ret_ret ?_
      refine fin0 ttok rfl rfl ?_
      exact (wkP_refl _ rfl)

/-- (*sawmill/wire.Reader).counted -/
noncomputable def wire_Reader__counted_g (vr : Twire_Reader) (vat : Int) (most : Int) : Option (Int × Int × Int) :=
  (Option.bind (wire_Reader__number_g vr vat) (fun nv => (bif (nv.2.2 != 0) then some (0, 0, nv.2.2) else (bif (decide (most < 0)) then some (0, 0, 4) else (bif (decide ((WU64 most) < nv.1)) then some (0, 0, 4) else some (nv.1, nv.2.1, 0))))))
theorem wire_Reader__counted_w (vr : Twire_Reader) (vat : Int) (most : Int) (r : (Int × Int × Int)) (h : wire_Reader__counted_g vr vat most = some r) : Holds Try.prog 48 [(.ref 1000 0 0), (I vat), (I most)] [(1000, some ⟨81, 3, [(encTwire_Reader vr)]⟩)] (.tup [(U64 r.1), (I r.2.1), (I r.2.2)]) [(1000, some ⟨81, 3, [(encTwire_Reader vr)]⟩)] := by
  unfold wire_Reader__counted_g at h
  refine holds_fn Try.func48 rfl Try.ntmps48 rfl rfl rfl ?_
  refine awp_seq ?_
  refine awp_go hmix ?_
  refine go_run' ttok 3 rfl ?_
  refine go_nil nd ?_
  refine then_norm ?_
  refine awp_seq ?_
  refine awp_go hmix ?_
  refine go_run' ttok 2 rfl ?_
  obtain ⟨nv, hv1, h⟩ := of_obind h
  refine go_callM (.tup [(U64 nv.1), (I nv.2.1), (I nv.2.2)]) [] [(1000, some ⟨81, 3, [(.agg [(S vr.s), (I vr.at_), (I vr.e)])]⟩)] [(1000, some 1000)] [(1000, some 1000)] fn53 (wire_Reader__number_w vr vat nv hv1) rfl rfl rfl rfl rfl trivial ⟨⟨rfl, rfl, rfl⟩, (wkP_refl _ rfl), trivial⟩ rfl rfl ⟨⟨_, rfl, rfl, rfl, .inl ⟨rfl, nr_one rfl⟩⟩, trivial⟩ rfl rfl ⟨⟨_, rfl, rfl, rfl, .inl ⟨rfl, nr_one rfl⟩⟩, trivial⟩ (wkP_refl _ rfl) rfl (fun h => absurd rfl h) rfl rfl rfl ?_
  refine go_run' ttok 7 rfl ?_
  refine go_nil nd ?_
  refine then_norm ?_
  refine awp_seq ?_
  refine awp_seq ?_
  refine awp_go hmix ?_
  refine go_run' ttok 2 rfl ?_
  refine go_nil nd ?_
  refine then_norm ?_
  refine awp_cond (b := (nv.2.2 != 0)) rfl (fun c2 => ?_) (fun c2 => ?_)
  · replace h := of_bif_t h c2
    refine awp_seq ?_
    refine awp_go hmix ?_
    refine go_run' ttok 4 rfl ?_
    refine go_nil nd ?_
    refine then_norm ?_
    refine awp_ret ?_
    refine then_ret ?_
    have e3 := of_some h
    subst e3
    refine ret_ret ?_
    exact finB [(1000, some 1000)] ttok rfl rfl rfl rfl (wkP_refl _ rfl) ⟨⟨_, rfl, rfl, rfl, .inl ⟨rfl, nr_one rfl⟩⟩, trivial⟩
  · replace h := of_bif_f h c2
    refine awp_skip ?_
    refine then_norm ?_
    refine awp_seq ?_
    refine awp_seq ?_
    refine awp_go hmix ?_
    refine go_run' ttok 3 rfl ?_
    refine go_gcase rfl rfl rfl (fun g4 => ?_) (fun g4 => ?_)
    · rw [g4]
      replace h := of_bif_t h g4
      refine go_run' ttok 5 rfl ?_
      refine go_nil nd ?_
      refine then_norm ?_
      refine awp_cond rfl (fun tt0 => ?_) (fun h => by cases h)
      clear tt0
      refine awp_seq ?_
      refine awp_go hmix ?_
      refine go_run' ttok 3 rfl ?_
      refine go_nil nd ?_
      refine then_norm ?_
      refine awp_ret ?_
      refine then_ret ?_
      have e5 := of_some h
      subst e5
      refine ret_ret ?_
      exact finB [(1000, some 1000)] ttok rfl rfl rfl rfl (wkP_refl _ rfl) ⟨⟨_, rfl, rfl, rfl, .inl ⟨rfl, nr_one rfl⟩⟩, trivial⟩
    · rw [g4]
      replace h := of_bif_f h g4
      refine go_run' ttok 5 rfl ?_
      refine go_nil nd ?_
      refine then_norm ?_
      refine awp_cond (b := (decide ((WU64 most) < nv.1))) rfl (fun c6 => ?_) (fun c6 => ?_)
      · replace h := of_bif_t h c6
        refine awp_seq ?_
        refine awp_go hmix ?_
        refine go_run' ttok 3 rfl ?_
        refine go_nil nd ?_
        refine then_norm ?_
        refine awp_ret ?_
        refine then_ret ?_
        have e7 := of_some h
        subst e7
        refine ret_ret ?_
        exact finB [(1000, some 1000)] ttok rfl rfl rfl rfl (wkP_refl _ rfl) ⟨⟨_, rfl, rfl, rfl, .inl ⟨rfl, nr_one rfl⟩⟩, trivial⟩
      · replace h := of_bif_f h c6
        refine awp_skip ?_
        refine then_norm ?_
        refine awp_seq ?_
        refine awp_go hmix ?_
        refine go_run' ttok 5 rfl ?_
        refine go_nil nd ?_
        refine then_norm ?_
        refine awp_ret ?_
        have e8 := of_some h
        subst e8
        refine ret_ret ?_
        exact finB [(1000, some 1000)] ttok rfl rfl rfl rfl (wkP_refl _ rfl) ⟨⟨_, rfl, rfl, rfl, .inl ⟨rfl, nr_one rfl⟩⟩, trivial⟩
noncomputable def wire_Reader__counted_c (N : Nat) (vr : Twire_Reader) (vat : Int) (most : Int) : Option (Int × Int × Int) :=
  (Option.bind ((wire_Reader__number_c N) vr vat) (fun nv => (bif (nv.2.2 != 0) then some (0, 0, nv.2.2) else (bif (decide (most < 0)) then some (0, 0, 4) else (bif (decide ((WU64 most) < nv.1)) then some (0, 0, 4) else some (nv.1, nv.2.1, 0))))))
theorem wire_Reader__counted_le (N : Nat) (vr : Twire_Reader) (vat : Int) (most : Int) : OLe (wire_Reader__counted_c N vr vat most) (wire_Reader__counted_g vr vat most) := by
  unfold wire_Reader__counted_c wire_Reader__counted_g
  repeat' (first | exact ole_rfl | exact wire_Reader__number_le _ _ _ | refine ole_bif ?_ ?_ | refine ole_bind ?_ (fun _ => ?_) | refine ole_let (fun _ => ?_) | refine ole_map ?_ | refine ole_elim (fun _ => ?_) (fun _ => ?_) | refine ole_loop (fun _ => ?_))

/-- (*sawmill/wire.Reader).Text -/
noncomputable def wire_Reader__Text_g (vr : Twire_Reader) (most : Int) : Option (ByteArray × Twire_Reader) :=
  (bif (wire_Reader__stopped_g vr) then some ((⟨#[]⟩ : ByteArray), vr) else (Option.bind (wire_Reader__counted_g vr vr.at_ most) (fun cv => (letB ((bif (cv.2.2 == 0) then (bif (decide ((WU64 (W64 (((vr.s.size : Nat) : Int) - cv.2.1))) < cv.1)) then 3 else cv.2.2) else cv.2.2) : Int) (fun e => (bif (e != 0) then (letB (wire_Reader__done_g vr 0 e) (fun dv => some ((⟨#[]⟩ : ByteArray), dv))) else (letB (wire_Reader__done_g vr (W64 (cv.2.1 + (W64 cv.1))) 0) (fun dv1 => (Option.bind (ssubO dv1.s cv.2.1 (W64 (cv.2.1 + (W64 cv.1)))) (fun t => some (t, dv1)))))))))))
theorem wire_Reader__Text_w (vr : Twire_Reader) (most : Int) (r : (ByteArray × Twire_Reader)) (h : wire_Reader__Text_g vr most = some r) : Holds Try.prog 25 [(.ref 1000 0 0), (I most)] [(1000, some ⟨81, 3, [(encTwire_Reader vr)]⟩)] (S r.1) [(1000, some ⟨81, 3, [(encTwire_Reader r.2)]⟩)] := by
  unfold wire_Reader__Text_g at h
  refine holds_fn Try.func25 rfl Try.ntmps25 rfl rfl rfl ?_
  refine awp_seq ?_
  refine awp_go hmix ?_
  refine go_run' ttok 1 rfl ?_
  refine go_nil nd ?_
  refine then_norm ?_
  refine awp_seq ?_
  refine awp_seq ?_
  refine awp_go hmix ?_
  refine go_run' ttok 1 rfl ?_
  refine go_callM (B (wire_Reader__stopped_g vr)) [] [(1000, some ⟨81, 3, [(.agg [(S vr.s), (I vr.at_), (I vr.e)])]⟩)] [(1000, some 1000)] [(1000, some 1000)] fn45 (wire_Reader__stopped_w vr _ rfl) rfl rfl rfl rfl rfl trivial ⟨⟨rfl, rfl, rfl⟩, trivial⟩ rfl rfl ⟨⟨_, rfl, rfl, rfl, .inl ⟨rfl, nr_one rfl⟩⟩, trivial⟩ rfl rfl ⟨⟨_, rfl, rfl, rfl, .inl ⟨rfl, nr_one rfl⟩⟩, trivial⟩ (wkP_refl _ rfl) rfl (fun h => absurd rfl h) rfl rfl rfl ?_
  refine go_nil nd ?_
  refine then_norm ?_
  refine awp_cond (b := (wire_Reader__stopped_g vr)) rfl (fun c1 => ?_) (fun c1 => ?_)
  · replace h := of_bif_t h c1
    refine awp_seq ?_
    refine awp_go hmix ?_
    refine go_run' ttok 1 rfl ?_
    refine go_nil nd ?_
    refine then_norm ?_
    refine awp_ret ?_
    refine then_ret ?_
    have e2 := of_some h
    subst e2
    refine ret_ret ?_
    exact finB [(1000, some 1000)] ttok rfl rfl rfl rfl (wkP_refl _ rfl) ⟨⟨_, rfl, rfl, rfl, .inl ⟨rfl, nr_one rfl⟩⟩, trivial⟩
  · replace h := of_bif_f h c1
    refine awp_skip ?_
    refine then_norm ?_
    refine awp_seq ?_
    refine awp_go hmix ?_
    refine go_run' ttok 2 rfl ?_
    refine go_step rfl (as_nilCheck rfl rfl) rfl rfl rfl ?_
    refine go_run' ttok 3 rfl ?_
    obtain ⟨cv, hv3, h⟩ := of_obind h
    refine go_callM (.tup [(U64 cv.1), (I cv.2.1), (I cv.2.2)]) [] [(1000, some ⟨81, 3, [(.agg [(S vr.s), (I vr.at_), (I vr.e)])]⟩)] [(1000, some 1000)] [(1000, some 1000)] fn48 (wire_Reader__counted_w vr vr.at_ most cv hv3) rfl rfl rfl rfl rfl trivial ⟨⟨rfl, rfl, rfl⟩, (wkP_refl _ rfl), (wkP_refl _ rfl), trivial⟩ rfl rfl ⟨⟨_, rfl, rfl, rfl, .inl ⟨rfl, nr_one rfl⟩⟩, trivial⟩ rfl rfl ⟨⟨_, rfl, rfl, rfl, .inl ⟨rfl, nr_one rfl⟩⟩, trivial⟩ (wkP_refl _ rfl) rfl (fun h => absurd rfl h) rfl rfl rfl ?_
    refine go_run' ttok 7 rfl ?_
    refine go_nil nd ?_
    refine then_norm ?_
    obtain ⟨y, hx4, h⟩ := of_let h
    refine awp_seqJ (X := Int) [0, 5, 6] [1000] (fun w => [(7, (I w))]) (fun w => []) (fun w => w = y) rfl rfl ?_ ?_
    · skip
      refine awp_seq ?_
      refine awp_go hmix ?_
      refine go_run' ttok 3 rfl ?_
      refine go_gcase rfl rfl rfl (fun g6 => ?_) (fun g6 => ?_)
      · rw [g6]
        replace hx4 := of_bif_t hx4 g6
        refine go_run' ttok 2 rfl ?_
        refine go_step rfl (as_nilCheck rfl rfl) rfl rfl rfl ?_
        refine go_run' ttok 8 rfl ?_
        refine go_nil nd ?_
        refine then_norm ?_
        refine awp_cond (b := (decide ((WU64 (W64 (((vr.s.size : Nat) : Int) - cv.2.1))) < cv.1))) rfl (fun c7 => ?_) (fun c7 => ?_)
        · replace hx4 := of_bif_t hx4 c7
          refine awp_go hmix ?_
          refine go_run' ttok 1 rfl ?_
          refine go_nil nd ?_
          have e8 := hx4
          refine then_norm ⟨rfl, 3, [(1000, some 1000)], ⟨rfl, rfl, rfl, rfl, rfl, ⟨wkP_id _ rfl, trivial⟩, trivial⟩, e8⟩
        · replace hx4 := of_bif_f hx4 c7
          refine awp_skip ?_
          have e9 := hx4
          refine then_norm ⟨rfl, cv.2.2, [(1000, some 1000)], ⟨rfl, rfl, rfl, rfl, rfl, ⟨wkP_id _ rfl, trivial⟩, trivial⟩, e9⟩
      · rw [g6]
        replace hx4 := of_bif_f hx4 g6
        refine go_run' ttok 11 rfl ?_
        refine go_nil nd ?_
        refine then_norm ?_
        refine awp_cond rfl (fun h => by cases h) (fun tt0 => ?_)
        clear tt0
        refine awp_skip ?_
        have e10 := hx4
        refine then_norm ⟨rfl, cv.2.2, [(1000, some 1000)], ⟨rfl, rfl, rfl, rfl, rfl, ⟨wkP_id _ rfl, trivial⟩, trivial⟩, e10⟩
    · intro e hw5
      subst hw5
      refine awp_seq ?_
      refine awp_seq ?_
      refine awp_go hmix ?_
      refine go_run' ttok 2 rfl ?_
      refine go_nil nd ?_
      refine then_norm ?_
      refine awp_cond (b := (e != 0)) rfl (fun c11 => ?_) (fun c11 => ?_)
      · replace h := of_bif_t h c11
        refine awp_seq ?_
        refine awp_go hmix ?_
        refine go_run' ttok 2 rfl ?_
        obtain ⟨dv, hv12, h⟩ := of_let h
        refine go_callM (.tup []) [] [(1000, some ⟨81, 3, [(.agg [(S dv.s), (I dv.at_), (I dv.e)])]⟩)] [(1000, some 1000)] [(1000, some 1000)] fn47 (wire_Reader__done_w vr 0 e dv hv12) rfl rfl rfl rfl rfl trivial ⟨⟨rfl, rfl, rfl⟩, (wkP_refl _ rfl), (wkP_refl _ rfl), trivial⟩ rfl rfl ⟨⟨_, rfl, rfl, rfl, .inl ⟨rfl, nr_one rfl⟩⟩, trivial⟩ rfl rfl ⟨⟨_, rfl, rfl, rfl, .inl ⟨rfl, nr_one rfl⟩⟩, trivial⟩ (wkP_refl _ rfl) rfl (fun h => absurd rfl h) rfl rfl rfl ?_
        refine go_nil nd ?_
        refine then_norm ?_
        refine awp_seq ?_
        refine awp_go hmix ?_
        refine go_run' ttok 1 rfl ?_
        refine go_nil nd ?_
        refine then_norm ?_
        refine awp_ret ?_
        refine then_ret ?_
        have e13 := of_some h
        subst e13
        refine ret_ret ?_
        exact finB [(1000, some 1000)] ttok rfl rfl rfl rfl (wkP_refl _ rfl) ⟨⟨_, rfl, rfl, rfl, .inl ⟨rfl, nr_one rfl⟩⟩, trivial⟩
      · replace h := of_bif_f h c11
        refine awp_skip ?_
        refine then_norm ?_
        refine awp_seq ?_
        refine awp_go hmix ?_
        refine go_run' ttok 5 rfl ?_
        refine go_nil nd ?_
        refine then_norm ?_
        refine awp_seq ?_
        refine awp_go hmix ?_
        refine go_run' ttok 2 rfl ?_
        obtain ⟨dv1, hv14, h⟩ := of_let h
        refine go_callM (.tup []) [] [(1000, some ⟨81, 3, [(.agg [(S dv1.s), (I dv1.at_), (I dv1.e)])]⟩)] [(1000, some 1000)] [(1000, some 1000)] fn47 (wire_Reader__done_w vr (W64 (cv.2.1 + (W64 cv.1))) 0 dv1 hv14) rfl rfl rfl rfl rfl trivial ⟨⟨rfl, rfl, rfl⟩, (wkP_refl _ rfl), (wkP_refl _ rfl), trivial⟩ rfl rfl ⟨⟨_, rfl, rfl, rfl, .inl ⟨rfl, nr_one rfl⟩⟩, trivial⟩ rfl rfl ⟨⟨_, rfl, rfl, rfl, .inl ⟨rfl, nr_one rfl⟩⟩, trivial⟩ (wkP_refl _ rfl) rfl (fun h => absurd rfl h) rfl rfl rfl ?_
        refine go_nil nd ?_
        refine then_norm ?_
        refine awp_seq ?_
        refine awp_go hmix ?_
        refine go_run' ttok 1 rfl ?_
        refine go_step rfl (as_nilCheck rfl rfl) rfl rfl rfl ?_
        refine go_run' ttok 4 rfl ?_
        obtain ⟨t, hv15, h⟩ := of_obind h
        refine go_sliceS dv1.s t cv.2.1 (W64 (cv.2.1 + (W64 cv.1))) hv15 ttok rfl rfl rfl rfl rfl ⟨_, rfl⟩ ⟨_, rfl⟩ rfl ?_
        refine go_run' ttok 1 rfl ?_
        refine go_nil nd ?_
        refine then_norm ?_
        refine awp_ret ?_
        have e16 := of_some h
        subst e16
        refine ret_ret ?_
        exact finB [(1000, some 1000)] ttok rfl rfl rfl rfl (wkP_refl _ rfl) ⟨⟨_, rfl, rfl, rfl, .inl ⟨rfl, nr_one rfl⟩⟩, trivial⟩
noncomputable def wire_Reader__Text_c (N : Nat) (vr : Twire_Reader) (most : Int) : Option (ByteArray × Twire_Reader) :=
  (bif (wire_Reader__stopped_g vr) then some ((⟨#[]⟩ : ByteArray), vr) else (Option.bind ((wire_Reader__counted_c N) vr vr.at_ most) (fun cv => (letB ((bif (cv.2.2 == 0) then (bif (decide ((WU64 (W64 (((vr.s.size : Nat) : Int) - cv.2.1))) < cv.1)) then 3 else cv.2.2) else cv.2.2) : Int) (fun e => (bif (e != 0) then (letB (wire_Reader__done_g vr 0 e) (fun dv => some ((⟨#[]⟩ : ByteArray), dv))) else (letB (wire_Reader__done_g vr (W64 (cv.2.1 + (W64 cv.1))) 0) (fun dv1 => (Option.bind (ssubO dv1.s cv.2.1 (W64 (cv.2.1 + (W64 cv.1)))) (fun t => some (t, dv1)))))))))))
theorem wire_Reader__Text_le (N : Nat) (vr : Twire_Reader) (most : Int) : OLe (wire_Reader__Text_c N vr most) (wire_Reader__Text_g vr most) := by
  unfold wire_Reader__Text_c wire_Reader__Text_g
  repeat' (first | exact ole_rfl | exact wire_Reader__counted_le _ _ _ _ | refine ole_bif ?_ ?_ | refine ole_bind ?_ (fun _ => ?_) | refine ole_let (fun _ => ?_) | refine ole_map ?_ | refine ole_elim (fun _ => ?_) (fun _ => ?_) | refine ole_loop (fun _ => ?_))

/-- (*sawmill/wire.Reader).Text -/
noncomputable def wire_Reader__Text_nil_g (most : Int) : ByteArray :=
  (⟨#[]⟩ : ByteArray)
theorem wire_Reader__Text_nil_w (most : Int) (r : ByteArray) (h : wire_Reader__Text_nil_g most = r) : Holds Try.prog 25 [(.sc (.pointer none)), (I most)] [] (S r) [] := by
  unfold wire_Reader__Text_nil_g at h
  refine holds_fn Try.func25 rfl Try.ntmps25 rfl rfl rfl ?_
  refine awp_seq ?_
  refine awp_go hmix ?_
  refine go_run' ttok 1 rfl ?_
  refine go_nil nd ?_
  refine then_norm ?_
  refine awp_seq ?_
  refine awp_seq ?_
  refine awp_go hmix ?_
  refine go_run' ttok 1 rfl ?_
  refine go_call fn45 (wire_Reader__stopped_nil_w true rfl) rfl rfl rfl rfl rfl rfl rfl ?_
  refine go_nil nd ?_
  refine then_norm ?_
  refine awp_cond rfl (fun tt0 => ?_) (fun h => by cases h)
  clear tt0
  refine awp_seq ?_
  refine awp_go hmix ?_
  refine go_run' ttok 1 rfl ?_
  refine go_nil nd ?_
  refine then_norm ?_
  refine awp_ret ?_
  refine then_ret ?_
  have e1 := h
  subst e1
  refine ret_ret ?_
  refine fin0 ttok rfl rfl ?_
  exact (wkP_refl _ rfl)

/-- sawmill/wire.Text -/
noncomputable def wire_Text_g (s : ByteArray) : Option ByteArray :=
  (Option.bind (wire_Uint_g (WU64 ((s.size : Nat) : Int))) (fun uv => (Option.bind (catO uv s) (fun t => some t))))
theorem wire_Text_w (s : ByteArray) (r : ByteArray) (h : wire_Text_g s = some r) : Holds Try.prog 17 [(S s)] [] (S r) [] := by
  unfold wire_Text_g at h
  refine holds_fn Try.func17 rfl Try.ntmps17 rfl rfl rfl ?_
  refine awp_seq ?_
  refine awp_go hmix ?_
  refine go_run' ttok 1 rfl ?_
  refine go_nil nd ?_
  refine then_norm ?_
  refine awp_seq ?_
  refine awp_go hmix ?_
  refine go_run' ttok 3 rfl ?_
  obtain ⟨uv, hv1, h⟩ := of_obind h
  refine go_call fn12 (wire_Uint_w (WU64 ((s.size : Nat) : Int)) uv hv1) rfl rfl rfl rfl rfl rfl rfl ?_
  refine go_run' ttok 1 rfl ?_
  obtain ⟨t, hv2, h⟩ := of_obind h
  refine go_catT uv s t hv2 rfl rfl rfl rfl rfl ?_
  refine go_run' ttok 1 rfl ?_
  refine go_nil nd ?_
  refine then_norm ?_
  refine awp_ret ?_
  have e3 := of_some h
  subst e3
  refine ret_ret ?_
  refine fin0 ttok rfl rfl ?_
  exact (wkP_refl _ rfl)
noncomputable def wire_Text_c (N : Nat) (s : ByteArray) : Option ByteArray :=
  (Option.bind ((wire_Uint_c N) (WU64 ((s.size : Nat) : Int))) (fun uv => (Option.bind (catO uv s) (fun t => some t))))
theorem wire_Text_le (N : Nat) (s : ByteArray) : OLe (wire_Text_c N s) (wire_Text_g s) := by
  unfold wire_Text_c wire_Text_g
  repeat' (first | exact ole_rfl | exact wire_Uint_le _ _ | refine ole_bif ?_ ?_ | refine ole_bind ?_ (fun _ => ?_) | refine ole_let (fun _ => ?_) | refine ole_map ?_ | refine ole_elim (fun _ => ?_) (fun _ => ?_) | refine ole_loop (fun _ => ?_))

/-- (*strings.Builder).copyCheck -/
noncomputable def __strings_Builder__copyCheck_n_g (b_buf : (List Int)) : (List Int) :=
  b_buf
theorem __strings_Builder__copyCheck_n_w (b_buf : (List Int)) (r : (List Int)) (h : __strings_Builder__copyCheck_n_g b_buf = r) : Holds Try.prog 54 [(.ref 1000 0 0)] [(1000, some ⟨74, 2, [(.agg [(.sc (.pointer none)), (.arr 1101 0 b_buf.length)])]⟩), (1101, some ⟨5, 1, b_buf.map U8⟩)] (.tup []) [(1000, some ⟨74, 2, [(.agg [(.ref 1000 0 0), (.arr 811 0 r.length)])]⟩), (811, some ⟨5, 1, r.map U8⟩)] := by
  unfold __strings_Builder__copyCheck_n_g at h
  refine holds_fn Try.func54 rfl Try.ntmps54 rfl rfl rfl ?_
  refine awp_seq ?_
  refine awp_go hmix ?_
  refine go_run' ttok 1 rfl ?_
  refine go_step rfl (as_nilCheck rfl rfl) rfl rfl rfl ?_
  refine go_run' ttok 2 rfl ?_
  refine go_step rfl (as_nilNil (.inl ⟨rfl, rfl⟩) rfl Try.underlying72 rfl rfl) rfl rfl rfl ?_
  refine go_nil nd ?_
  refine then_norm ?_
  refine awp_cond rfl (fun tt0 => ?_) (fun h => by cases h)
  clear tt0
  refine awp_go hmix ?_
  refine go_run' ttok 2 rfl ?_
  refine go_step rfl (as_toUnsafe rfl Try.underlying72 Try.underlying93 ty74_ok (by decide) rfl rfl (by simp)) rfl rfl rfl ?_
  refine go_step rfl (as_noEscape rfl Try.func55 (by kernel_rfl) rfl (by kernel_rfl) (by kernel_rfl) rfl) rfl rfl rfl ?_
  refine go_step rfl (as_fromUnsafe rfl Try.underlying93 Try.underlying72 ty74_ok (by kernel_rfl) rfl rfl (by simp) rfl rfl) rfl rfl rfl ?_
  refine go_step rfl (as_nilCheck rfl rfl) rfl rfl rfl ?_
  refine go_run' ttok 2 rfl ?_
  refine go_nil nd ?_
  have e1 := h
  subst e1
  refine ret_norm ?_
  exact finB [(1000, some 1000), (811, some 1101)] ttok rfl rfl rfl rfl (wkP_refl _ rfl) ⟨⟨_, rfl, rfl, rfl, .inr ⟨⟨⟨⟨rfl, rfl, rfl⟩, ⟨rfl, rfl, (by first | rfl | simp [setI])⟩, trivial⟩, trivial⟩, ⟨rfl, trivial⟩⟩⟩, ⟨_, rfl, rfl, rfl, wkX_map (enc := U8) b_buf (fun _ => rfl)⟩, trivial⟩

/-- (*strings.Builder).copyCheck -/
noncomputable def __strings_Builder__copyCheck_s_g (b_buf : (List Int)) : (List Int) :=
  b_buf
theorem __strings_Builder__copyCheck_s_w (b_buf : (List Int)) (r : (List Int)) (h : __strings_Builder__copyCheck_s_g b_buf = r) : Holds Try.prog 54 [(.ref 1000 0 0)] [(1000, some ⟨74, 2, [(.agg [(.ref 1000 0 0), (.arr 1101 0 b_buf.length)])]⟩), (1101, some ⟨5, 1, b_buf.map U8⟩)] (.tup []) [(1000, some ⟨74, 2, [(.agg [(.ref 1000 0 0), (.arr 811 0 r.length)])]⟩), (811, some ⟨5, 1, r.map U8⟩)] := by
  unfold __strings_Builder__copyCheck_s_g at h
  refine holds_fn Try.func54 rfl Try.ntmps54 rfl rfl rfl ?_
  refine awp_seq ?_
  refine awp_go hmix ?_
  refine go_run' ttok 1 rfl ?_
  refine go_step rfl (as_nilCheck rfl rfl) rfl rfl rfl ?_
  refine go_run' ttok 2 rfl ?_
  refine go_step rfl (as_refNil (.inl ⟨rfl, rfl⟩) rfl Try.underlying72 rfl rfl) rfl rfl rfl ?_
  refine go_nil nd ?_
  refine then_norm ?_
  refine awp_cond rfl (fun h => by cases h) (fun tt0 => ?_)
  clear tt0
  refine awp_seq ?_
  refine awp_go hmix ?_
  refine go_run' ttok 1 rfl ?_
  refine go_step rfl (as_nilCheck rfl rfl) rfl rfl rfl ?_
  refine go_run' ttok 3 rfl ?_
  refine go_step rfl (as_refSame (.inr ⟨rfl, rfl⟩) rfl Try.underlying72 ty74_ok rfl rfl) rfl rfl rfl ?_
  refine go_nil nd ?_
  refine then_norm ?_
  refine awp_cond rfl (fun h => by cases h) (fun tt0 => ?_)
  clear tt0
  refine awp_skip ?_
  have e1 := h
  subst e1
  refine ret_norm ?_
  exact finB [(1000, some 1000), (811, some 1101)] ttok rfl rfl rfl rfl (wkP_refl _ rfl) ⟨⟨_, rfl, rfl, rfl, .inr ⟨⟨⟨⟨rfl, rfl, rfl⟩, ⟨rfl, rfl, (by first | rfl | simp [setI])⟩, trivial⟩, trivial⟩, ⟨rfl, trivial⟩⟩⟩, ⟨_, rfl, rfl, rfl, wkX_map (enc := U8) b_buf (fun _ => rfl)⟩, trivial⟩

/-- (*strings.Builder).WriteString -/
noncomputable def __strings_Builder__WriteString_n_g (b_buf : (List Int)) (s : ByteArray) : Option (Int × (List Int)) :=
  (letB (__strings_Builder__copyCheck_n_g b_buf) (fun cv => (Option.bind (appO 1 cv (sbytes s)) (fun l => some (((s.size : Nat) : Int), l)))))
theorem __strings_Builder__WriteString_n_w (b_buf : (List Int)) (s : ByteArray) (r : (Int × (List Int))) (h : __strings_Builder__WriteString_n_g b_buf s = some r) : Holds Try.prog 43 [(.ref 1000 0 0), (S s)] [(1000, some ⟨74, 2, [(.agg [(.sc (.pointer none)), (.arr 1101 0 b_buf.length)])]⟩), (1101, some ⟨5, 1, b_buf.map U8⟩)] (.tup [(I r.1), (.sc .nilIface)]) [(1000, some ⟨74, 2, [(.agg [(.ref 1000 0 0), (.arr 811 0 r.2.length)])]⟩), (811, some ⟨5, 1, r.2.map U8⟩)] := by
  unfold __strings_Builder__WriteString_n_g at h
  refine holds_fn Try.func43 rfl Try.ntmps43 rfl rfl rfl ?_
  refine awp_seq ?_
  refine awp_go hmix ?_
  refine go_run' ttok 2 rfl ?_
  refine go_nil nd ?_
  refine then_norm ?_
  refine awp_seq ?_
  refine awp_go hmix ?_
  refine go_run' ttok 1 rfl ?_
  obtain ⟨cv, hv1, h⟩ := of_let h
  refine go_callM (.tup []) [] [(1000, some ⟨74, 2, [(.agg [(.ref 1000 0 0), (.arr 600 0 cv.length)])]⟩), (600, some ⟨5, 1, cv.map U8⟩)] [(1000, some 1000), (1101, some 1101)] [(1000, some 1000), (600, some 811)] fn54 (__strings_Builder__copyCheck_n_w b_buf cv hv1) rfl rfl rfl rfl rfl trivial ⟨⟨rfl, rfl, rfl⟩, trivial⟩ rfl rfl ⟨⟨_, rfl, rfl, rfl, .inr ⟨⟨⟨wkP_id _ rfl, ⟨rfl, rfl, (by first | rfl | simp [setI])⟩, trivial⟩, trivial⟩, ⟨rfl, trivial⟩⟩⟩, ⟨_, rfl, rfl, rfl, wkX_map (enc := U8) b_buf (fun _ => rfl)⟩, trivial⟩ rfl rfl ⟨⟨_, rfl, rfl, rfl, .inr ⟨⟨⟨⟨rfl, rfl, rfl⟩, ⟨rfl, rfl, (by first | rfl | simp [setI])⟩, trivial⟩, trivial⟩, ⟨rfl, trivial⟩⟩⟩, ⟨_, rfl, rfl, rfl, wkX_map (enc := U8) cv (fun _ => rfl)⟩, trivial⟩ (wkP_refl _ rfl) rfl (fun h => absurd rfl h) rfl rfl rfl ?_
  refine go_nil nd ?_
  refine then_norm ?_
  refine awp_seq ?_
  refine awp_go hmix ?_
  refine go_run' ttok 2 rfl ?_
  refine go_step rfl (as_nilCheck rfl rfl) rfl rfl rfl ?_
  refine go_run' ttok 3 rfl ?_
  obtain ⟨l, hv2, h⟩ := of_obind h
  refine go_appStr cv l s hv2 (by first | rfl | simp [setI]) ttok rfl rfl rfl rfl rfl rfl rfl rfl rfl rfl rfl rfl rfl rfl rfl rfl rfl ?_
  refine go_step rfl (as_nilCheck rfl rfl) rfl rfl rfl ?_
  refine go_run' ttok 2 rfl ?_
  refine go_nil nd ?_
  refine then_norm ?_
  refine awp_seq ?_
  refine awp_go hmix ?_
  refine go_run' ttok 4 rfl ?_
  refine go_nil nd ?_
  refine then_norm ?_
  refine awp_ret ?_
  have e3 := of_some h
  subst e3
  refine ret_ret ?_
  exact finB [(1000, some 1000), (811, some 14)] ttok rfl rfl rfl rfl (wkP_refl _ rfl) ⟨⟨_, rfl, rfl, rfl, .inr ⟨⟨⟨⟨rfl, rfl, rfl⟩, ⟨rfl, rfl, (by first | rfl | simp [setI])⟩, trivial⟩, trivial⟩, ⟨rfl, trivial⟩⟩⟩, ⟨_, rfl, rfl, rfl, wkX_map (enc := U8) l (fun _ => rfl)⟩, trivial⟩
noncomputable def __strings_Builder__WriteString_n_c (N : Nat) (b_buf : (List Int)) (s : ByteArray) : Option (Int × (List Int)) :=
  (letB (__strings_Builder__copyCheck_n_g b_buf) (fun cv => (Option.bind (appO 1 cv (sbytes s)) (fun l => some (((s.size : Nat) : Int), l)))))
theorem __strings_Builder__WriteString_n_le (N : Nat) (b_buf : (List Int)) (s : ByteArray) : OLe (__strings_Builder__WriteString_n_c N b_buf s) (__strings_Builder__WriteString_n_g b_buf s) := by
  unfold __strings_Builder__WriteString_n_c __strings_Builder__WriteString_n_g
  repeat' (first | exact ole_rfl | refine ole_bif ?_ ?_ | refine ole_bind ?_ (fun _ => ?_) | refine ole_let (fun _ => ?_) | refine ole_map ?_ | refine ole_elim (fun _ => ?_) (fun _ => ?_) | refine ole_loop (fun _ => ?_))

/-- (*strings.Builder).WriteString -/
noncomputable def __strings_Builder__WriteString_s_g (b_buf : (List Int)) (s : ByteArray) : Option (Int × (List Int)) :=
  (letB (__strings_Builder__copyCheck_s_g b_buf) (fun cv => (Option.bind (appO 1 cv (sbytes s)) (fun l => some (((s.size : Nat) : Int), l)))))
theorem __strings_Builder__WriteString_s_w (b_buf : (List Int)) (s : ByteArray) (r : (Int × (List Int))) (h : __strings_Builder__WriteString_s_g b_buf s = some r) : Holds Try.prog 43 [(.ref 1000 0 0), (S s)] [(1000, some ⟨74, 2, [(.agg [(.ref 1000 0 0), (.arr 1101 0 b_buf.length)])]⟩), (1101, some ⟨5, 1, b_buf.map U8⟩)] (.tup [(I r.1), (.sc .nilIface)]) [(1000, some ⟨74, 2, [(.agg [(.ref 1000 0 0), (.arr 811 0 r.2.length)])]⟩), (811, some ⟨5, 1, r.2.map U8⟩)] := by
  unfold __strings_Builder__WriteString_s_g at h
  refine holds_fn Try.func43 rfl Try.ntmps43 rfl rfl rfl ?_
  refine awp_seq ?_
  refine awp_go hmix ?_
  refine go_run' ttok 2 rfl ?_
  refine go_nil nd ?_
  refine then_norm ?_
  refine awp_seq ?_
  refine awp_go hmix ?_
  refine go_run' ttok 1 rfl ?_
  obtain ⟨cv, hv1, h⟩ := of_let h
  refine go_callM (.tup []) [] [(1000, some ⟨74, 2, [(.agg [(.ref 1000 0 0), (.arr 600 0 cv.length)])]⟩), (600, some ⟨5, 1, cv.map U8⟩)] [(1000, some 1000), (1101, some 1101)] [(1000, some 1000), (600, some 811)] fn54 (__strings_Builder__copyCheck_s_w b_buf cv hv1) rfl rfl rfl rfl rfl trivial ⟨⟨rfl, rfl, rfl⟩, trivial⟩ rfl rfl ⟨⟨_, rfl, rfl, rfl, .inr ⟨⟨⟨⟨rfl, rfl, rfl⟩, ⟨rfl, rfl, (by first | rfl | simp [setI])⟩, trivial⟩, trivial⟩, ⟨rfl, trivial⟩⟩⟩, ⟨_, rfl, rfl, rfl, wkX_map (enc := U8) b_buf (fun _ => rfl)⟩, trivial⟩ rfl rfl ⟨⟨_, rfl, rfl, rfl, .inr ⟨⟨⟨⟨rfl, rfl, rfl⟩, ⟨rfl, rfl, (by first | rfl | simp [setI])⟩, trivial⟩, trivial⟩, ⟨rfl, trivial⟩⟩⟩, ⟨_, rfl, rfl, rfl, wkX_map (enc := U8) cv (fun _ => rfl)⟩, trivial⟩ (wkP_refl _ rfl) rfl (fun h => absurd rfl h) rfl rfl rfl ?_
  refine go_nil nd ?_
  refine then_norm ?_
  refine awp_seq ?_
  refine awp_go hmix ?_
  refine go_run' ttok 2 rfl ?_
  refine go_step rfl (as_nilCheck rfl rfl) rfl rfl rfl ?_
  refine go_run' ttok 3 rfl ?_
  obtain ⟨l, hv2, h⟩ := of_obind h
  refine go_appStr cv l s hv2 (by first | rfl | simp [setI]) ttok rfl rfl rfl rfl rfl rfl rfl rfl rfl rfl rfl rfl rfl rfl rfl rfl rfl ?_
  refine go_step rfl (as_nilCheck rfl rfl) rfl rfl rfl ?_
  refine go_run' ttok 2 rfl ?_
  refine go_nil nd ?_
  refine then_norm ?_
  refine awp_seq ?_
  refine awp_go hmix ?_
  refine go_run' ttok 4 rfl ?_
  refine go_nil nd ?_
  refine then_norm ?_
  refine awp_ret ?_
  have e3 := of_some h
  subst e3
  refine ret_ret ?_
  exact finB [(1000, some 1000), (811, some 14)] ttok rfl rfl rfl rfl (wkP_refl _ rfl) ⟨⟨_, rfl, rfl, rfl, .inr ⟨⟨⟨⟨rfl, rfl, rfl⟩, ⟨rfl, rfl, (by first | rfl | simp [setI])⟩, trivial⟩, trivial⟩, ⟨rfl, trivial⟩⟩⟩, ⟨_, rfl, rfl, rfl, wkX_map (enc := U8) l (fun _ => rfl)⟩, trivial⟩
noncomputable def __strings_Builder__WriteString_s_c (N : Nat) (b_buf : (List Int)) (s : ByteArray) : Option (Int × (List Int)) :=
  (letB (__strings_Builder__copyCheck_s_g b_buf) (fun cv => (Option.bind (appO 1 cv (sbytes s)) (fun l => some (((s.size : Nat) : Int), l)))))
theorem __strings_Builder__WriteString_s_le (N : Nat) (b_buf : (List Int)) (s : ByteArray) : OLe (__strings_Builder__WriteString_s_c N b_buf s) (__strings_Builder__WriteString_s_g b_buf s) := by
  unfold __strings_Builder__WriteString_s_c __strings_Builder__WriteString_s_g
  repeat' (first | exact ole_rfl | refine ole_bif ?_ ?_ | refine ole_bind ?_ (fun _ => ?_) | refine ole_let (fun _ => ?_) | refine ole_map ?_ | refine ole_elim (fun _ => ?_) (fun _ => ?_) | refine ole_loop (fun _ => ?_))

/-- (*strings.Builder).String -/
noncomputable def __strings_Builder__String_s_g (b_buf : (List Int)) : Option ByteArray :=
  (bif (b_buf.length != 0) then (bif (Nat.ble b_buf.length 9223372036854775807) then (Option.bind (strO b_buf) (fun t => some t)) else none) else none)
theorem __strings_Builder__String_s_w (b_buf : (List Int)) (r : ByteArray) (h : __strings_Builder__String_s_g b_buf = some r) : Holds Try.prog 44 [(.ref 1000 0 0)] [(1000, some ⟨74, 2, [(.agg [(.ref 1000 0 0), (.arr 1101 0 b_buf.length)])]⟩), (1101, some ⟨5, 1, b_buf.map U8⟩)] (S r) [] := by
  unfold __strings_Builder__String_s_g at h
  refine holds_fn Try.func44 rfl Try.ntmps44 rfl rfl rfl ?_
  refine awp_seq ?_
  refine awp_go hmix ?_
  refine go_run' ttok 1 rfl ?_
  refine go_nil nd ?_
  refine then_norm ?_
  refine awp_seq ?_
  refine awp_go hmix ?_
  refine go_run' ttok 1 rfl ?_
  refine go_step rfl (as_nilCheck rfl rfl) rfl rfl rfl ?_
  refine go_run' ttok 2 rfl ?_
  obtain ⟨hd1, h⟩ := of_grd h
  refine go_step rfl (as_sliceData rfl rfl rfl (by simpa using hd1)) rfl rfl rfl ?_
  refine go_run' ttok 1 rfl ?_
  refine go_step rfl (as_nilCheck rfl rfl) rfl rfl rfl ?_
  refine go_run' ttok 3 rfl ?_
  obtain ⟨hd2, h⟩ := of_grd h
  obtain ⟨t, hv3, h⟩ := of_obind h
  refine go_step rfl (as_unsafeString (n := b_buf.length) (ns := b_buf) rfl Try.underlying92 ty5_ok (by kernel_rfl) rfl rfl rfl rfl rfl rfl rfl hv3 (Nat.le_of_ble_eq_true hd2)) rfl rfl rfl ?_
  refine go_run' ttok 1 rfl ?_
  refine go_nil (fun _ => by kernel_rfl) ?_
  refine then_norm ?_
  refine awp_ret ?_
  have e4 := of_some h
  subst e4
  refine ret_ret ?_
  exact finB [] ttok rfl rfl rfl rfl (wkP_refl _ rfl) trivial
noncomputable def __strings_Builder__String_s_c (N : Nat) (b_buf : (List Int)) : Option ByteArray :=
  (bif (b_buf.length != 0) then (bif (Nat.ble b_buf.length 9223372036854775807) then (Option.bind (strO b_buf) (fun t => some t)) else none) else none)
theorem __strings_Builder__String_s_le (N : Nat) (b_buf : (List Int)) : OLe (__strings_Builder__String_s_c N b_buf) (__strings_Builder__String_s_g b_buf) := by
  unfold __strings_Builder__String_s_c __strings_Builder__String_s_g
  repeat' (first | exact ole_rfl | refine ole_bif ?_ ?_ | refine ole_bind ?_ (fun _ => ?_) | refine ole_let (fun _ => ?_) | refine ole_map ?_ | refine ole_elim (fun _ => ?_) (fun _ => ?_) | refine ole_loop (fun _ => ?_))

noncomputable def wire_Ints_s1 (l : (List Int)) (vv : Int) (b1 : (List Int)) : Option ((Int × (List Int)) ⊕ (List Int)) :=
  (bif (decide (vv < ((l.length : Nat) : Int))) then (Option.bind (getI l vv) (fun e => (Option.bind (wire_Int_g e) (fun iv => (Option.bind (__strings_Builder__WriteString_s_g b1 iv) (fun wv1 => some (Sum.inl ((W64 (vv + 1)), wv1.2)))))))) else some (Sum.inr b1))
/-- sawmill/wire.Ints -/
noncomputable def wire_Ints_g (l : (List Int)) : Option ByteArray :=
  (Option.bind (wire_Uint_g (WU64 ((l.length : Nat) : Int))) (fun uv => (Option.bind (__strings_Builder__WriteString_n_g [] uv) (fun wv => (Option.bind ((loopO (fun q => wire_Ints_s1 l q.1 q.2) (0, wv.2)) : Option (List Int)) (fun b => (Option.bind (__strings_Builder__String_s_g b) (fun sv => some sv))))))))
theorem wire_Ints_w (l : (List Int)) (r : ByteArray) (h : wire_Ints_g l = some r) : Holds Try.prog 19 [((encL I) l)] [] (S r) [] := by
  unfold wire_Ints_g at h
  refine holds_fn Try.func19 rfl Try.ntmps19 rfl rfl rfl ?_
  refine awp_seq ?_
  refine awp_go hmix ?_
  refine go_run' ttok 1 rfl ?_
  refine go_nil nd ?_
  refine then_norm ?_
  refine awp_seq ?_
  refine awp_go hmix ?_
  refine go_run' ttok 1 rfl ?_
  refine go_nil nd ?_
  refine then_norm ?_
  refine awp_seq ?_
  refine awp_go hmix ?_
  refine go_run' ttok 1 rfl ?_
  refine go_lenT I l ttok rfl rfl rfl rfl rfl rfl ?_
  refine go_run' ttok 1 rfl ?_
  obtain ⟨uv, hv1, h⟩ := of_obind h
  refine go_call fn12 (wire_Uint_w (WU64 ((l.length : Nat) : Int)) uv hv1) rfl rfl rfl rfl rfl rfl rfl ?_
  obtain ⟨wv, hv2, h⟩ := of_obind h
  refine go_callM (.tup [(I wv.1), (.sc .nilIface)]) [] [(3, some ⟨74, 2, [(.agg [(.ref 3 0 0), (.arr 600 0 wv.2.length)])]⟩), (600, some ⟨5, 1, wv.2.map U8⟩)] [(1000, some 3), (1101, none)] [(3, some 1000), (600, some 811)] fn43 (__strings_Builder__WriteString_n_w [] uv wv hv2) rfl rfl rfl rfl rfl trivial ⟨⟨rfl, rfl, rfl⟩, (wkP_refl _ rfl), trivial⟩ rfl rfl ⟨⟨_, rfl, rfl, rfl, .inr ⟨⟨⟨wkP_id _ rfl, ⟨rfl, rfl, (by first | rfl | simp [setI])⟩, trivial⟩, trivial⟩, ⟨rfl, trivial⟩⟩⟩, rfl, trivial⟩ rfl rfl ⟨⟨_, rfl, rfl, rfl, .inr ⟨⟨⟨⟨rfl, rfl, rfl⟩, ⟨rfl, rfl, (by first | rfl | simp [setI])⟩, trivial⟩, trivial⟩, ⟨rfl, trivial⟩⟩⟩, ⟨_, rfl, rfl, rfl, wkX_map (enc := U8) wv.2 (fun _ => rfl)⟩, trivial⟩ (wkP_refl _ rfl) rfl (fun h => absurd rfl h) rfl rfl rfl ?_
  refine go_nil nd ?_
  refine then_norm ?_
  obtain ⟨y, hx3, h⟩ := of_obind h
  refine awp_seqJ (X := (List Int)) [3] [] (fun w => []) (fun w => [(600, some ⟨5, 1, w.map U8⟩), (3, some ⟨74, 2, [(.agg [(.ref 3 0 0), (.arr 600 0 w.length)])]⟩)]) (fun w => w = y) rfl rfl ?_ ?_
  · skip
    refine awp_seq ?_
    refine awp_go hmix ?_
    refine go_run' ttok 1 rfl ?_
    refine go_lenT I l ttok rfl rfl rfl rfl rfl rfl ?_
    refine go_run' ttok 1 rfl ?_
    refine go_nil nd ?_
    refine then_norm ?_
    refine awp_block ?_
    refine awp_loopD (X := (Int × (List Int))) (Y := (List Int)) [3, 11, 12] [] (fun q => [(13, (I q.1))]) (fun q => [(600, some ⟨5, 1, q.2.map U8⟩), (3, some ⟨74, 2, [(.agg [(.ref 3 0 0), (.arr 600 0 q.2.length)])]⟩)]) (fun q => wire_Ints_s1 l q.1 q.2) (0, wv.2) [(600, some 600), (3, some 3)] hx3 ⟨rfl, rfl, rfl, rfl, rfl, ⟨wkP_id _ rfl, trivial⟩, ⟨⟨_, rfl, rfl, rfl, wkX_map (enc := U8) wv.2 (fun _ => rfl)⟩, ⟨_, rfl, rfl, rfl, .inr ⟨⟨⟨wkP_id _ rfl, ⟨rfl, rfl, (by first | rfl | simp [setI])⟩, trivial⟩, trivial⟩, ⟨rfl, trivial⟩⟩⟩, trivial⟩⟩ (fun x vR vz hz5 hk6 => ?_)
    obtain ⟨vv, b1⟩ := x
    change wire_Ints_s1 l vv b1 = _ at hz5
    unfold wire_Ints_s1 at hz5
    refine awp_seq ?_
    refine awp_go hmix ?_
    refine go_run' ttok 1 rfl ?_
    refine go_nil nd ?_
    refine then_norm ?_
    refine awp_seq ?_
    refine awp_cond (b := (decide (vv < ((l.length : Nat) : Int)))) rfl (fun c7 => ?_) (fun c7 => ?_)
    · replace hz5 := of_bif_t hz5 c7
      refine awp_skip ?_
      refine then_norm ?_
      refine awp_seq ?_
      refine awp_block ?_
      refine awp_seq ?_
      refine awp_go hmix ?_
      obtain ⟨e, hv8, hz5⟩ := of_obind hz5
      refine go_indexT I l vv e hv8 ttok rfl rfl rfl rfl rfl rfl rfl rfl rfl ?_
      refine go_run' ttok 2 rfl ?_
      refine go_nil nd ?_
      refine then_norm ?_
      refine awp_go hmix ?_
      refine go_run' ttok 1 rfl ?_
      obtain ⟨iv, hv9, hz5⟩ := of_obind hz5
      refine go_call fn14 (wire_Int_w e iv hv9) rfl rfl rfl rfl rfl rfl rfl ?_
      obtain ⟨wv1, hv10, hz5⟩ := of_obind hz5
      refine go_callM (.tup [(I wv1.1), (.sc .nilIface)]) [] [(3, some ⟨74, 2, [(.agg [(.ref 3 0 0), (.arr 601 0 wv1.2.length)])]⟩), (601, some ⟨5, 1, wv1.2.map U8⟩)] [(1000, some 3), (1101, some 600)] [(3, some 1000), (601, some 811)] fn43 (__strings_Builder__WriteString_s_w b1 iv wv1 hv10) rfl rfl rfl rfl rfl trivial ⟨⟨rfl, rfl, rfl⟩, (wkP_refl _ rfl), trivial⟩ rfl rfl ⟨⟨_, rfl, rfl, rfl, .inr ⟨⟨⟨⟨rfl, rfl, rfl⟩, ⟨rfl, rfl, (by first | rfl | simp [setI])⟩, trivial⟩, trivial⟩, ⟨rfl, trivial⟩⟩⟩, ⟨_, rfl, rfl, rfl, wkX_map (enc := U8) b1 (fun _ => rfl)⟩, trivial⟩ rfl rfl ⟨⟨_, rfl, rfl, rfl, .inr ⟨⟨⟨⟨rfl, rfl, rfl⟩, ⟨rfl, rfl, (by first | rfl | simp [setI])⟩, trivial⟩, trivial⟩, ⟨rfl, trivial⟩⟩⟩, ⟨_, rfl, rfl, rfl, wkX_map (enc := U8) wv1.2 (fun _ => rfl)⟩, trivial⟩ (wkP_refl _ rfl) rfl (fun h => absurd rfl h) rfl rfl rfl ?_
      refine go_nil nd ?_
      refine block_norm ?_
      refine then_norm ?_
      refine awp_go hmix ?_
      refine go_run' ttok 2 rfl ?_
      refine go_nil nd ?_
      have e11 := of_some hz5
      subst e11
      refine then_norm ⟨rfl, ((W64 (vv + 1)), wv1.2), [(600, some 601), (3, some 3)], ⟨rfl, rfl, rfl, rfl, rfl, ⟨wkP_id _ rfl, trivial⟩, ⟨⟨_, rfl, rfl, rfl, wkX_map (enc := U8) wv1.2 (fun _ => rfl)⟩, ⟨_, rfl, rfl, rfl, .inr ⟨⟨⟨wkP_id _ rfl, ⟨rfl, rfl, (by first | rfl | simp [setI])⟩, trivial⟩, trivial⟩, ⟨rfl, trivial⟩⟩⟩, trivial⟩⟩, hk6⟩
    · replace hz5 := of_bif_f hz5 c7
      refine awp_exit ?_
      refine then_exit ?_
      obtain ⟨t, hn12, hq⟩ := of_mapr' hz5
      subst hq
      have hq : t = _ := hk6
      subst hq
      refine then_exit ?_
      refine block_here ?_
      have e13 := of_some hn12
      refine then_norm ⟨rfl, b1, [(600, some 600), (3, some 3)], ⟨rfl, rfl, rfl, rfl, rfl, trivial, ⟨⟨_, rfl, rfl, rfl, wkX_map (enc := U8) b1 (fun _ => rfl)⟩, ⟨_, rfl, rfl, rfl, .inr ⟨⟨⟨wkP_id _ rfl, ⟨rfl, rfl, (by first | rfl | simp [setI])⟩, trivial⟩, trivial⟩, ⟨rfl, trivial⟩⟩⟩, trivial⟩⟩, e13⟩
  · intro b hw4
    subst hw4
    refine awp_seq ?_
    refine awp_go hmix ?_
    obtain ⟨sv, hv14, h⟩ := of_obind h
    refine go_callM (S sv) [] [] [(1000, some 3), (1101, some 600)] [] fn44 (__strings_Builder__String_s_w b sv hv14) rfl rfl rfl rfl rfl trivial ⟨⟨rfl, rfl, rfl⟩, trivial⟩ rfl rfl ⟨⟨_, rfl, rfl, rfl, .inr ⟨⟨⟨⟨rfl, rfl, rfl⟩, ⟨rfl, rfl, (by first | rfl | simp [setI])⟩, trivial⟩, trivial⟩, ⟨rfl, trivial⟩⟩⟩, ⟨_, rfl, rfl, rfl, wkX_map (enc := U8) b (fun _ => rfl)⟩, trivial⟩ rfl rfl trivial (wkP_refl _ rfl) rfl (fun h => absurd rfl h) rfl rfl rfl ?_
    refine go_run' ttok 1 rfl ?_
    refine go_nil nd ?_
    refine then_norm ?_
    refine awp_ret ?_
    have e15 := of_some h
    subst e15
    refine ret_ret ?_
    refine fin0 ttok rfl rfl ?_
    exact (wkP_refl _ rfl)
noncomputable def wire_Ints_cs1 (N : Nat) (l : (List Int)) (vv : Int) (b1 : (List Int)) : Option ((Int × (List Int)) ⊕ (List Int)) :=
  (bif (decide (vv < ((l.length : Nat) : Int))) then (Option.bind (getI l vv) (fun e => (Option.bind ((wire_Int_c N) e) (fun iv => (Option.bind ((__strings_Builder__WriteString_s_c N) b1 iv) (fun wv1 => some (Sum.inl ((W64 (vv + 1)), wv1.2)))))))) else some (Sum.inr b1))
theorem wire_Ints_cs1_le (N : Nat) (l : (List Int)) (vv : Int) (b1 : (List Int)) : OLe (wire_Ints_cs1 N l vv b1) (wire_Ints_s1 l vv b1) := by
  unfold wire_Ints_cs1 wire_Ints_s1
  repeat' (first | exact ole_rfl | exact wire_Uint_le _ _ | exact __strings_Builder__WriteString_n_le _ _ _ | exact __strings_Builder__String_s_le _ _ | exact wire_Int_le _ _ | exact __strings_Builder__WriteString_s_le _ _ _ | refine ole_bif ?_ ?_ | refine ole_bind ?_ (fun _ => ?_) | refine ole_let (fun _ => ?_) | refine ole_map ?_ | refine ole_elim (fun _ => ?_) (fun _ => ?_) | refine ole_loop (fun _ => ?_))
noncomputable def wire_Ints_c (N : Nat) (l : (List Int)) : Option ByteArray :=
  (Option.bind ((wire_Uint_c N) (WU64 ((l.length : Nat) : Int))) (fun uv => (Option.bind ((__strings_Builder__WriteString_n_c N) [] uv) (fun wv => (Option.bind ((iterX N (fun q => wire_Ints_cs1 N l q.1 q.2) (0, wv.2)) : Option (List Int)) (fun b => (Option.bind ((__strings_Builder__String_s_c N) b) (fun sv => some sv))))))))
theorem wire_Ints_le (N : Nat) (l : (List Int)) : OLe (wire_Ints_c N l) (wire_Ints_g l) := by
  unfold wire_Ints_c wire_Ints_g
  repeat' (first | exact ole_rfl | exact wire_Uint_le _ _ | exact __strings_Builder__WriteString_n_le _ _ _ | exact __strings_Builder__String_s_le _ _ | exact wire_Int_le _ _ | exact __strings_Builder__WriteString_s_le _ _ _ | exact wire_Ints_cs1_le _ _ _ _ | refine ole_bif ?_ ?_ | refine ole_bind ?_ (fun _ => ?_) | refine ole_let (fun _ => ?_) | refine ole_map ?_ | refine ole_elim (fun _ => ?_) (fun _ => ?_) | refine ole_loop (fun _ => ?_))

/-- sawmill/sawmilllaw05.awake -/
noncomputable def l05_awake_g : Option Bool :=
  (letB (wire_NewReader_g (⟨#[172, 2, 5]⟩ : ByteArray)) (fun nv => (Option.bind (wire_Reader__Uint_g nv) (fun uv => (Option.bind (wire_Reader__Int_g uv.2 (-10) 10) (fun iv => (letB (wire_NewReader_g (⟨#[2, 97, 98]⟩ : ByteArray)) (fun nv1 => (Option.bind (wire_Reader__Text_g nv1 1) (fun tv => (bif (uv.1 == 300) then (bif (iv.1 == (-3)) then (bif ((wire_Reader__End_g iv.2) == 0) then (bif (bEq tv.1 (⟨#[]⟩ : ByteArray)) then (bif ((wire_Reader__Err_g tv.2) == 4) then (bif ((wire_Reader__Left_g tv.2) == 3) then (Option.bind (wire_Uint_g 300) (fun uv1 => (bif (bEq uv1 (⟨#[172, 2]⟩ : ByteArray)) then (Option.bind (wire_Int_g (-3)) (fun iv1 => (bif (bEq iv1 (⟨#[5]⟩ : ByteArray)) then (Option.bind (wire_Text_g (⟨#[97, 98]⟩ : ByteArray)) (fun tv1 => (bif (bEq tv1 (⟨#[2, 97, 98]⟩ : ByteArray)) then (Option.bind (wire_Ints_g ([1, (-1)])) (fun iv2 => some (bEq iv2 (⟨#[2, 2, 1]⟩ : ByteArray)))) else some false))) else some false))) else some false))) else some false) else some false) else some false) else some false) else some false) else some false)))))))))))
theorem l05_awake_w (r : Bool) (h : l05_awake_g = some r) : Holds Try.prog 16 [] [] (B r) [] := by
  unfold l05_awake_g at h
  refine holds_fn Try.func16 rfl Try.ntmps16 rfl rfl rfl ?_
  refine awp_seq ?_
  refine awp_go hmix ?_
  refine go_run' ttok 1 rfl ?_
  refine go_nil nd ?_
  refine then_norm ?_
  refine awp_seq ?_
  refine awp_go hmix ?_
  obtain ⟨nv, hv1, h⟩ := of_let h
  refine go_callM (.ref 8 0 0) [] [(8, some ⟨81, 3, [(.agg [(S nv.s), (I nv.at_), (I nv.e)])]⟩)] [] [(8, some 999)] fn21 (wire_NewReader_w (⟨#[172, 2, 5]⟩ : ByteArray) nv hv1) rfl rfl rfl rfl rfl trivial ⟨(wkP_refl _ rfl), trivial⟩ rfl rfl trivial rfl rfl ⟨⟨_, rfl, rfl, rfl, .inl ⟨rfl, nr_one rfl⟩⟩, trivial⟩ ⟨rfl, rfl, rfl⟩ rfl (fun h => absurd rfl h) rfl rfl rfl ?_
  refine go_run' ttok 1 rfl ?_
  refine go_nil nd ?_
  refine then_norm ?_
  refine awp_seq ?_
  refine awp_go hmix ?_
  refine go_run' ttok 1 rfl ?_
  obtain ⟨uv, hv2, h⟩ := of_obind h
  refine go_callM (U64 uv.1) [] [(8, some ⟨81, 3, [(.agg [(S uv.2.s), (I uv.2.at_), (I uv.2.e)])]⟩)] [(1000, some 8)] [(8, some 1000)] fn42 (wire_Reader__Uint_w nv uv hv2) rfl rfl rfl rfl rfl trivial ⟨⟨rfl, rfl, rfl⟩, trivial⟩ rfl rfl ⟨⟨_, rfl, rfl, rfl, .inl ⟨rfl, nr_one rfl⟩⟩, trivial⟩ rfl rfl ⟨⟨_, rfl, rfl, rfl, .inl ⟨rfl, nr_one rfl⟩⟩, trivial⟩ (wkP_refl _ rfl) rfl (fun h => absurd rfl h) rfl rfl rfl ?_
  refine go_run' ttok 1 rfl ?_
  refine go_nil nd ?_
  refine then_norm ?_
  refine awp_seq ?_
  refine awp_go hmix ?_
  refine go_run' ttok 1 rfl ?_
  obtain ⟨iv, hv3, h⟩ := of_obind h
  refine go_callM (I iv.1) [] [(8, some ⟨81, 3, [(.agg [(S iv.2.s), (I iv.2.at_), (I iv.2.e)])]⟩)] [(1000, some 8)] [(8, some 1000)] fn22 (wire_Reader__Int_w uv.2 (-10) 10 iv hv3) rfl rfl rfl rfl rfl trivial ⟨⟨rfl, rfl, rfl⟩, (wkP_refl _ rfl), (wkP_refl _ rfl), trivial⟩ rfl rfl ⟨⟨_, rfl, rfl, rfl, .inl ⟨rfl, nr_one rfl⟩⟩, trivial⟩ rfl rfl ⟨⟨_, rfl, rfl, rfl, .inl ⟨rfl, nr_one rfl⟩⟩, trivial⟩ (wkP_refl _ rfl) rfl (fun h => absurd rfl h) rfl rfl rfl ?_
  refine go_run' ttok 1 rfl ?_
  refine go_nil nd ?_
  refine then_norm ?_
  refine awp_seq ?_
  refine awp_go hmix ?_
  refine go_run' ttok 1 rfl ?_
  refine go_callM (I (wire_Reader__End_g iv.2)) [] [(8, some ⟨81, 3, [(.agg [(S iv.2.s), (I iv.2.at_), (I iv.2.e)])]⟩)] [(1000, some 8)] [(8, some 1000)] fn23 (wire_Reader__End_w iv.2 _ rfl) rfl rfl rfl rfl rfl trivial ⟨⟨rfl, rfl, rfl⟩, trivial⟩ rfl rfl ⟨⟨_, rfl, rfl, rfl, .inl ⟨rfl, nr_one rfl⟩⟩, trivial⟩ rfl rfl ⟨⟨_, rfl, rfl, rfl, .inl ⟨rfl, nr_one rfl⟩⟩, trivial⟩ (wkP_refl _ rfl) rfl (fun h => absurd rfl h) rfl rfl rfl ?_
  refine go_run' ttok 1 rfl ?_
  refine go_nil nd ?_
  refine then_norm ?_
  refine awp_seq ?_
  refine awp_go hmix ?_
  obtain ⟨nv1, hv4, h⟩ := of_let h
  refine go_callM (.ref 15 0 0) [] [(15, some ⟨81, 3, [(.agg [(S nv1.s), (I nv1.at_), (I nv1.e)])]⟩)] [] [(15, some 999)] fn21 (wire_NewReader_w (⟨#[2, 97, 98]⟩ : ByteArray) nv1 hv4) rfl rfl rfl rfl rfl trivial ⟨(wkP_refl _ rfl), trivial⟩ rfl rfl trivial rfl rfl ⟨⟨_, rfl, rfl, rfl, .inl ⟨rfl, nr_one rfl⟩⟩, trivial⟩ ⟨rfl, rfl, rfl⟩ rfl (fun h => absurd rfl h) rfl rfl rfl ?_
  refine go_run' ttok 1 rfl ?_
  refine go_nil nd ?_
  refine then_norm ?_
  refine awp_seq ?_
  refine awp_go hmix ?_
  refine go_run' ttok 1 rfl ?_
  obtain ⟨tv, hv5, h⟩ := of_obind h
  refine go_callM (S tv.1) [] [(15, some ⟨81, 3, [(.agg [(S tv.2.s), (I tv.2.at_), (I tv.2.e)])]⟩)] [(1000, some 15)] [(15, some 1000)] fn25 (wire_Reader__Text_w nv1 1 tv hv5) rfl rfl rfl rfl rfl trivial ⟨⟨rfl, rfl, rfl⟩, (wkP_refl _ rfl), trivial⟩ rfl rfl ⟨⟨_, rfl, rfl, rfl, .inl ⟨rfl, nr_one rfl⟩⟩, trivial⟩ rfl rfl ⟨⟨_, rfl, rfl, rfl, .inl ⟨rfl, nr_one rfl⟩⟩, trivial⟩ (wkP_refl _ rfl) rfl (fun h => absurd rfl h) rfl rfl rfl ?_
  refine go_run' ttok 1 rfl ?_
  refine go_nil nd ?_
  refine then_norm ?_
  refine awp_seq ?_
  refine awp_go hmix ?_
  refine go_run' ttok 1 rfl ?_
  refine go_callM (I (wire_Reader__Err_g tv.2)) [] [(15, some ⟨81, 3, [(.agg [(S tv.2.s), (I tv.2.at_), (I tv.2.e)])]⟩)] [(1000, some 15)] [(15, some 1000)] fn34 (wire_Reader__Err_w tv.2 _ rfl) rfl rfl rfl rfl rfl trivial ⟨⟨rfl, rfl, rfl⟩, trivial⟩ rfl rfl ⟨⟨_, rfl, rfl, rfl, .inl ⟨rfl, nr_one rfl⟩⟩, trivial⟩ rfl rfl ⟨⟨_, rfl, rfl, rfl, .inl ⟨rfl, nr_one rfl⟩⟩, trivial⟩ (wkP_refl _ rfl) rfl (fun h => absurd rfl h) rfl rfl rfl ?_
  refine go_run' ttok 1 rfl ?_
  refine go_nil nd ?_
  refine then_norm ?_
  refine awp_seq ?_
  refine awp_go hmix ?_
  refine go_run' ttok 3 rfl ?_
  refine go_gcase rfl rfl rfl (fun g6 => ?_) (fun g6 => ?_)
  · rw [g6]
    replace h := of_bif_t h g6
    refine go_run' ttok 4 rfl ?_
    refine go_gcase rfl rfl rfl (fun g7 => ?_) (fun g7 => ?_)
    · rw [g7]
      replace h := of_bif_t h g7
      refine go_run' ttok 4 rfl ?_
      refine go_gcase rfl rfl rfl (fun g8 => ?_) (fun g8 => ?_)
      · rw [g8]
        replace h := of_bif_t h g8
        refine go_run' ttok 1 rfl ?_
        refine go_eqlS tv.1 (⟨#[]⟩ : ByteArray) rfl rfl rfl rfl rfl ?_
        refine go_run' ttok 2 rfl ?_
        refine go_gcase rfl rfl rfl (fun g9 => ?_) (fun g9 => ?_)
        · rw [g9]
          replace h := of_bif_t h g9
          refine go_run' ttok 4 rfl ?_
          refine go_gcase rfl rfl rfl (fun g10 => ?_) (fun g10 => ?_)
          · rw [g10]
            replace h := of_bif_t h g10
            refine go_run' ttok 1 rfl ?_
            refine go_callM (I (wire_Reader__Left_g tv.2)) [] [(15, some ⟨81, 3, [(.agg [(S tv.2.s), (I tv.2.at_), (I tv.2.e)])]⟩)] [(1000, some 15)] [(15, some 1000)] fn24 (wire_Reader__Left_w tv.2 _ rfl) rfl rfl rfl rfl rfl trivial ⟨⟨rfl, rfl, rfl⟩, trivial⟩ rfl rfl ⟨⟨_, rfl, rfl, rfl, .inl ⟨rfl, nr_one rfl⟩⟩, trivial⟩ rfl rfl ⟨⟨_, rfl, rfl, rfl, .inl ⟨rfl, nr_one rfl⟩⟩, trivial⟩ (wkP_refl _ rfl) rfl (fun h => absurd rfl h) rfl rfl rfl ?_
            refine go_run' ttok 3 rfl ?_
            refine go_gcase rfl rfl rfl (fun g11 => ?_) (fun g11 => ?_)
            · rw [g11]
              replace h := of_bif_t h g11
              obtain ⟨uv1, hv12, h⟩ := of_obind h
              refine go_call fn12 (wire_Uint_w 300 uv1 hv12) rfl rfl rfl rfl rfl rfl rfl ?_
              refine go_eqlS uv1 (⟨#[172, 2]⟩ : ByteArray) rfl rfl rfl rfl rfl ?_
              refine go_run' ttok 2 rfl ?_
              refine go_gcase rfl rfl rfl (fun g13 => ?_) (fun g13 => ?_)
              · rw [g13]
                replace h := of_bif_t h g13
                obtain ⟨iv1, hv14, h⟩ := of_obind h
                refine go_call fn14 (wire_Int_w (-3) iv1 hv14) rfl rfl rfl rfl rfl rfl rfl ?_
                refine go_eqlS iv1 (⟨#[5]⟩ : ByteArray) rfl rfl rfl rfl rfl ?_
                refine go_run' ttok 2 rfl ?_
                refine go_gcase rfl rfl rfl (fun g15 => ?_) (fun g15 => ?_)
                · rw [g15]
                  replace h := of_bif_t h g15
                  obtain ⟨tv1, hv16, h⟩ := of_obind h
                  refine go_call fn17 (wire_Text_w (⟨#[97, 98]⟩ : ByteArray) tv1 hv16) rfl rfl rfl rfl rfl rfl rfl ?_
                  refine go_eqlS tv1 (⟨#[2, 97, 98]⟩ : ByteArray) rfl rfl rfl rfl rfl ?_
                  refine go_run' ttok 2 rfl ?_
                  refine go_gcase rfl rfl rfl (fun g17 => ?_) (fun g17 => ?_)
                  · rw [g17]
                    replace h := of_bif_t h g17
                    refine go_run' ttok 1 rfl ?_
                    obtain ⟨iv2, hv18, h⟩ := of_obind h
                    refine go_callL (L := [(56, some ⟨3, 1, ([1, (-1)]).map I⟩)]) fn19 (wire_Ints_w ([1, (-1)]) iv2 hv18) rfl rfl rfl ⟨rfl, List.not_mem_nil, trivial⟩ ⟨(wkP_lend rfl (by first | rfl | simp [setI]) (fun _ => rfl)), trivial⟩ rfl rfl (fun _ => rfl) rfl ?_
                    refine go_eqlS iv2 (⟨#[2, 2, 1]⟩ : ByteArray) rfl rfl rfl rfl rfl ?_
                    refine go_run' ttok 2 rfl ?_
                    refine go_nil nd ?_
                    refine then_norm ?_
                    refine awp_ret ?_
                    have e19 := of_some h
                    subst e19
                    refine ret_ret ?_
                    refine fin0 ttok rfl rfl ?_
                    exact (wkP_refl _ rfl)
                  · rw [g17]
                    replace h := of_bif_f h g17
                    refine go_run' ttok 5 rfl ?_
                    refine go_nil nd ?_
                    refine then_norm ?_
                    refine awp_ret ?_
                    have e20 := of_some h
                    subst e20
                    refine ret_ret ?_
                    refine fin0 ttok rfl rfl ?_
                    exact (wkP_refl _ rfl)
                · rw [g15]
                  replace h := of_bif_f h g15
                  refine go_run' ttok 9 rfl ?_
                  refine go_nil nd ?_
                  refine then_norm ?_
                  refine awp_ret ?_
                  have e21 := of_some h
                  subst e21
                  refine ret_ret ?_
                  refine fin0 ttok rfl rfl ?_
                  exact (wkP_refl _ rfl)
              · rw [g13]
                replace h := of_bif_f h g13
                refine go_run' ttok 13 rfl ?_
                refine go_nil nd ?_
                refine then_norm ?_
                refine awp_ret ?_
                have e22 := of_some h
                subst e22
                refine ret_ret ?_
                refine fin0 ttok rfl rfl ?_
                exact (wkP_refl _ rfl)
            · rw [g11]
              replace h := of_bif_f h g11
              refine go_run' ttok 17 rfl ?_
              refine go_nil nd ?_
              refine then_norm ?_
              refine awp_ret ?_
              have e23 := of_some h
              subst e23
              refine ret_ret ?_
              refine fin0 ttok rfl rfl ?_
              exact (wkP_refl _ rfl)
          · rw [g10]
            replace h := of_bif_f h g10
            refine go_run' ttok 22 rfl ?_
            refine go_nil nd ?_
            refine then_norm ?_
            refine awp_ret ?_
            have e24 := of_some h
            subst e24
            refine ret_ret ?_
            refine fin0 ttok rfl rfl ?_
            exact (wkP_refl _ rfl)
        · rw [g9]
          replace h := of_bif_f h g9
          refine go_run' ttok 26 rfl ?_
          refine go_nil nd ?_
          refine then_norm ?_
          refine awp_ret ?_
          have e25 := of_some h
          subst e25
          refine ret_ret ?_
          refine fin0 ttok rfl rfl ?_
          exact (wkP_refl _ rfl)
      · rw [g8]
        replace h := of_bif_f h g8
        refine go_run' ttok 30 rfl ?_
        refine go_nil nd ?_
        refine then_norm ?_
        refine awp_ret ?_
        have e26 := of_some h
        subst e26
        refine ret_ret ?_
        refine fin0 ttok rfl rfl ?_
        exact (wkP_refl _ rfl)
    · rw [g7]
      replace h := of_bif_f h g7
      refine go_run' ttok 34 rfl ?_
      refine go_nil nd ?_
      refine then_norm ?_
      refine awp_ret ?_
      have e27 := of_some h
      subst e27
      refine ret_ret ?_
      refine fin0 ttok rfl rfl ?_
      exact (wkP_refl _ rfl)
  · rw [g6]
    replace h := of_bif_f h g6
    refine go_run' ttok 38 rfl ?_
    refine go_nil nd ?_
    refine then_norm ?_
    refine awp_ret ?_
    have e28 := of_some h
    subst e28
    refine ret_ret ?_
    refine fin0 ttok rfl rfl ?_
    exact (wkP_refl _ rfl)
noncomputable def l05_awake_c (N : Nat) : Option Bool :=
  (letB (wire_NewReader_g (⟨#[172, 2, 5]⟩ : ByteArray)) (fun nv => (Option.bind ((wire_Reader__Uint_c N) nv) (fun uv => (Option.bind ((wire_Reader__Int_c N) uv.2 (-10) 10) (fun iv => (letB (wire_NewReader_g (⟨#[2, 97, 98]⟩ : ByteArray)) (fun nv1 => (Option.bind ((wire_Reader__Text_c N) nv1 1) (fun tv => (bif (uv.1 == 300) then (bif (iv.1 == (-3)) then (bif ((wire_Reader__End_g iv.2) == 0) then (bif (bEq tv.1 (⟨#[]⟩ : ByteArray)) then (bif ((wire_Reader__Err_g tv.2) == 4) then (bif ((wire_Reader__Left_g tv.2) == 3) then (Option.bind ((wire_Uint_c N) 300) (fun uv1 => (bif (bEq uv1 (⟨#[172, 2]⟩ : ByteArray)) then (Option.bind ((wire_Int_c N) (-3)) (fun iv1 => (bif (bEq iv1 (⟨#[5]⟩ : ByteArray)) then (Option.bind ((wire_Text_c N) (⟨#[97, 98]⟩ : ByteArray)) (fun tv1 => (bif (bEq tv1 (⟨#[2, 97, 98]⟩ : ByteArray)) then (Option.bind ((wire_Ints_c N) ([1, (-1)])) (fun iv2 => some (bEq iv2 (⟨#[2, 2, 1]⟩ : ByteArray)))) else some false))) else some false))) else some false))) else some false) else some false) else some false) else some false) else some false) else some false)))))))))))
theorem l05_awake_le (N : Nat) : OLe (l05_awake_c N) (l05_awake_g) := by
  unfold l05_awake_c l05_awake_g
  repeat' (first | exact ole_rfl | exact wire_Reader__Uint_le _ _ | exact wire_Reader__Int_le _ _ _ _ | exact wire_Reader__Text_le _ _ _ | exact wire_Uint_le _ _ | exact wire_Int_le _ _ | exact wire_Text_le _ _ | exact wire_Ints_le _ _ | refine ole_bif ?_ ?_ | refine ole_bind ?_ (fun _ => ?_) | refine ole_let (fun _ => ?_) | refine ole_map ?_ | refine ole_elim (fun _ => ?_) (fun _ => ?_) | refine ole_loop (fun _ => ?_))

/-- sawmill/sawmilllaw05.WireNumbers -/
noncomputable def l05_WireNumbers_g (n : Int) (i : Int) : Option Bool :=
  (Option.bind (wire_Uint_g n) (fun uv => (Option.bind (r05_Uint_g n) (fun uv1 => (bif (bEq uv uv1) then (Option.bind (wire_Int_g i) (fun iv => (Option.bind (r05_Int_g i) (fun iv1 => (bif (bEq iv iv1) then (Option.bind l05_awake_g (fun av => some av)) else some false))))) else some false)))))
theorem l05_WireNumbers_w (n : Int) (i : Int) (r : Bool) (h : l05_WireNumbers_g n i = some r) : Holds Try.prog 3 [(U64 n), (I i)] [] (B r) [] := by
  unfold l05_WireNumbers_g at h
  refine holds_fn Try.func3 rfl Try.ntmps3 rfl rfl rfl ?_
  refine awp_seq ?_
  refine awp_go hmix ?_
  refine go_run' ttok 1 rfl ?_
  refine go_nil nd ?_
  refine then_norm ?_
  refine awp_seq ?_
  refine awp_go hmix ?_
  refine go_run' ttok 1 rfl ?_
  obtain ⟨uv, hv1, h⟩ := of_obind h
  refine go_call fn12 (wire_Uint_w n uv hv1) rfl rfl rfl rfl rfl rfl rfl ?_
  refine go_run' ttok 1 rfl ?_
  obtain ⟨uv1, hv2, h⟩ := of_obind h
  refine go_call fn13 (r05_Uint_w n uv1 hv2) rfl rfl rfl rfl rfl rfl rfl ?_
  refine go_eqlS uv uv1 rfl rfl rfl rfl rfl ?_
  refine go_run' ttok 1 rfl ?_
  refine go_gcase rfl rfl rfl (fun g3 => ?_) (fun g3 => ?_)
  · rw [g3]
    replace h := of_bif_t h g3
    refine go_run' ttok 1 rfl ?_
    obtain ⟨iv, hv4, h⟩ := of_obind h
    refine go_call fn14 (wire_Int_w i iv hv4) rfl rfl rfl rfl rfl rfl rfl ?_
    refine go_run' ttok 1 rfl ?_
    obtain ⟨iv1, hv5, h⟩ := of_obind h
    refine go_call fn15 (r05_Int_w i iv1 hv5) rfl rfl rfl rfl rfl rfl rfl ?_
    refine go_eqlS iv iv1 rfl rfl rfl rfl rfl ?_
    refine go_run' ttok 2 rfl ?_
    refine go_gcase rfl rfl rfl (fun g6 => ?_) (fun g6 => ?_)
    · rw [g6]
      replace h := of_bif_t h g6
      obtain ⟨av, hv7, h⟩ := of_obind h
      refine go_call fn16 (l05_awake_w av hv7) rfl rfl rfl rfl rfl rfl rfl ?_
      refine go_run' ttok 2 rfl ?_
      refine go_nil nd ?_
      refine then_norm ?_
      refine awp_ret ?_
      have e8 := of_some h
      subst e8
      refine ret_ret ?_
      refine fin0 ttok rfl rfl ?_
      exact (wkP_refl _ rfl)
    · rw [g6]
      replace h := of_bif_f h g6
      refine go_run' ttok 3 rfl ?_
      refine go_nil nd ?_
      refine then_norm ?_
      refine awp_ret ?_
      have e9 := of_some h
      subst e9
      refine ret_ret ?_
      refine fin0 ttok rfl rfl ?_
      exact (wkP_refl _ rfl)
  · rw [g3]
    replace h := of_bif_f h g3
    refine go_run' ttok 10 rfl ?_
    refine go_nil nd ?_
    refine then_norm ?_
    refine awp_ret ?_
    have e10 := of_some h
    subst e10
    refine ret_ret ?_
    refine fin0 ttok rfl rfl ?_
    exact (wkP_refl _ rfl)

/-- sawmill/sawmillref05.Text -/
noncomputable def r05_Text_g (s : ByteArray) : Option ByteArray :=
  (Option.bind (r05_Uint_g (WU64 ((s.size : Nat) : Int))) (fun uv => (Option.bind (catO uv s) (fun t => some t))))
theorem r05_Text_w (s : ByteArray) (r : ByteArray) (h : r05_Text_g s = some r) : Holds Try.prog 18 [(S s)] [] (S r) [] := by
  unfold r05_Text_g at h
  refine holds_fn Try.func18 rfl Try.ntmps18 rfl rfl rfl ?_
  refine awp_seq ?_
  refine awp_go hmix ?_
  refine go_run' ttok 1 rfl ?_
  refine go_nil nd ?_
  refine then_norm ?_
  refine awp_seq ?_
  refine awp_go hmix ?_
  refine go_run' ttok 3 rfl ?_
  obtain ⟨uv, hv1, h⟩ := of_obind h
  refine go_call fn13 (r05_Uint_w (WU64 ((s.size : Nat) : Int)) uv hv1) rfl rfl rfl rfl rfl rfl rfl ?_
  refine go_run' ttok 1 rfl ?_
  obtain ⟨t, hv2, h⟩ := of_obind h
  refine go_catT uv s t hv2 rfl rfl rfl rfl rfl ?_
  refine go_run' ttok 1 rfl ?_
  refine go_nil nd ?_
  refine then_norm ?_
  refine awp_ret ?_
  have e3 := of_some h
  subst e3
  refine ret_ret ?_
  refine fin0 ttok rfl rfl ?_
  exact (wkP_refl _ rfl)

noncomputable def r05_Ints_s1 (l : (List Int)) (s1 : ByteArray) (i : Int) : Option ((ByteArray × Int) ⊕ ByteArray) :=
  (bif (decide (i < ((l.length : Nat) : Int))) then (Option.bind (getI l i) (fun e => (Option.bind (r05_Int_g e) (fun iv => (Option.bind (catO s1 iv) (fun t => some (Sum.inl (t, (W64 (i + 1)))))))))) else some (Sum.inr s1))
/-- sawmill/sawmillref05.Ints -/
noncomputable def r05_Ints_g (l : (List Int)) : Option ByteArray :=
  (Option.bind (r05_Uint_g (WU64 ((l.length : Nat) : Int))) (fun uv => (Option.bind ((loopO (fun q => r05_Ints_s1 l q.1 q.2) (uv, 0)) : Option ByteArray) (fun s => some s))))
theorem r05_Ints_w (l : (List Int)) (r : ByteArray) (h : r05_Ints_g l = some r) : Holds Try.prog 20 [((encL I) l)] [] (S r) [] := by
  unfold r05_Ints_g at h
  refine holds_fn Try.func20 rfl Try.ntmps20 rfl rfl rfl ?_
  refine awp_seq ?_
  refine awp_go hmix ?_
  refine go_run' ttok 1 rfl ?_
  refine go_nil nd ?_
  refine then_norm ?_
  refine awp_seq ?_
  refine awp_go hmix ?_
  refine go_run' ttok 1 rfl ?_
  refine go_lenT I l ttok rfl rfl rfl rfl rfl rfl ?_
  refine go_run' ttok 1 rfl ?_
  obtain ⟨uv, hv1, h⟩ := of_obind h
  refine go_call fn13 (r05_Uint_w (WU64 ((l.length : Nat) : Int)) uv hv1) rfl rfl rfl rfl rfl rfl rfl ?_
  refine go_run' ttok 1 rfl ?_
  refine go_nil nd ?_
  refine then_norm ?_
  obtain ⟨y, hx2, h⟩ := of_obind h
  refine awp_seqJ (X := ByteArray) [] [] (fun w => [(3, (S w))]) (fun w => []) (fun w => w = y) rfl rfl ?_ ?_
  · skip
    refine awp_seq ?_
    refine awp_go hmix ?_
    refine go_run' ttok 1 rfl ?_
    refine go_nil nd ?_
    refine then_norm ?_
    refine awp_block ?_
    refine awp_loopD (X := (ByteArray × Int)) (Y := ByteArray) [0] [] (fun q => [(3, (S q.1)), (4, (I q.2))]) (fun q => []) (fun q => r05_Ints_s1 l q.1 q.2) (uv, 0) [] hx2 ⟨rfl, rfl, rfl, rfl, rfl, ⟨wkP_id _ rfl, wkP_id _ rfl, trivial⟩, trivial⟩ (fun x vR vz hz4 hk5 => ?_)
    obtain ⟨s1, i⟩ := x
    change r05_Ints_s1 l s1 i = _ at hz4
    unfold r05_Ints_s1 at hz4
    refine awp_seq ?_
    refine awp_seq ?_
    refine awp_go hmix ?_
    refine go_run' ttok 2 rfl ?_
    refine go_lenT I l ttok rfl rfl rfl rfl rfl rfl ?_
    refine go_run' ttok 1 rfl ?_
    refine go_nil nd ?_
    refine then_norm ?_
    refine awp_cond (b := (decide (i < ((l.length : Nat) : Int)))) rfl (fun c6 => ?_) (fun c6 => ?_)
    · replace hz4 := of_bif_t hz4 c6
      refine awp_skip ?_
      refine then_norm ?_
      refine awp_seq ?_
      refine awp_block ?_
      refine awp_go hmix ?_
      refine go_run' ttok 3 rfl ?_
      obtain ⟨e, hv7, hz4⟩ := of_obind hz4
      refine go_indexT I l i e hv7 ttok rfl rfl rfl rfl rfl rfl rfl rfl rfl ?_
      refine go_run' ttok 1 rfl ?_
      obtain ⟨iv, hv8, hz4⟩ := of_obind hz4
      refine go_call fn15 (r05_Int_w e iv hv8) rfl rfl rfl rfl rfl rfl rfl ?_
      obtain ⟨t, hv9, hz4⟩ := of_obind hz4
      refine go_catT s1 iv t hv9 rfl rfl rfl rfl rfl ?_
      refine go_run' ttok 1 rfl ?_
      refine go_nil nd ?_
      refine block_norm ?_
      refine then_norm ?_
      refine awp_go hmix ?_
      refine go_run' ttok 3 rfl ?_
      refine go_nil nd ?_
      have e10 := of_some hz4
      subst e10
      refine then_norm ⟨rfl, (t, (W64 (i + 1))), [], ⟨rfl, rfl, rfl, rfl, rfl, ⟨wkP_id _ rfl, wkP_id _ rfl, trivial⟩, trivial⟩, hk5⟩
    · replace hz4 := of_bif_f hz4 c6
      refine awp_exit ?_
      refine then_exit ?_
      obtain ⟨t1, hn11, hq⟩ := of_mapr' hz4
      subst hq
      have hq : t1 = _ := hk5
      subst hq
      refine then_exit ?_
      refine block_here ?_
      have e12 := of_some hn11
      refine then_norm ⟨rfl, s1, [], ⟨rfl, rfl, rfl, rfl, rfl, ⟨wkP_id _ rfl, trivial⟩, trivial⟩, e12⟩
  · intro s hw3
    subst hw3
    refine awp_seq ?_
    refine awp_go hmix ?_
    refine go_run' ttok 2 rfl ?_
    refine go_nil nd ?_
    refine then_norm ?_
    refine awp_ret ?_
    have e13 := of_some h
    subst e13
    refine ret_ret ?_
    refine fin0 ttok rfl rfl ?_
    exact (wkP_refl _ rfl)

/-- sawmill/sawmilllaw05.WireTexts -/
noncomputable def l05_WireTexts_g (s : ByteArray) (l : (List Int)) : Option Bool :=
  (bif (decide (3000 < ((s.size : Nat) : Int))) then (Option.bind l05_awake_g (fun av => some av)) else (bif (decide (300 < ((l.length : Nat) : Int))) then (Option.bind l05_awake_g (fun av1 => some av1)) else (Option.bind (wire_Text_g s) (fun tv => (Option.bind (r05_Text_g s) (fun tv1 => (bif (bEq tv tv1) then (Option.bind (wire_Ints_g l) (fun iv => (Option.bind (r05_Ints_g l) (fun iv1 => (bif (bEq iv iv1) then (Option.bind l05_awake_g (fun av2 => some av2)) else some false))))) else some false)))))))
theorem l05_WireTexts_w (s : ByteArray) (l : (List Int)) (r : Bool) (h : l05_WireTexts_g s l = some r) : Holds Try.prog 4 [(S s), ((encL I) l)] [] (B r) [] := by
  unfold l05_WireTexts_g at h
  refine holds_fn Try.func4 rfl Try.ntmps4 rfl rfl rfl ?_
  refine awp_seq ?_
  refine awp_go hmix ?_
  refine go_run' ttok 1 rfl ?_
  refine go_nil nd ?_
  refine then_norm ?_
  refine awp_seq ?_
  refine awp_seq ?_
  refine awp_go hmix ?_
  refine go_run' ttok 4 rfl ?_
  refine go_gcase rfl rfl rfl (fun g1 => ?_) (fun g1 => ?_)
  · rw [g1]
    replace h := of_bif_t h g1
    refine go_run' ttok 4 rfl ?_
    refine go_nil nd ?_
    refine then_norm ?_
    refine awp_cond rfl (fun tt0 => ?_) (fun h => by cases h)
    clear tt0
    refine awp_seq ?_
    refine awp_go hmix ?_
    obtain ⟨av, hv2, h⟩ := of_obind h
    refine go_call fn16 (l05_awake_w av hv2) rfl rfl rfl rfl rfl rfl rfl ?_
    refine go_run' ttok 1 rfl ?_
    refine go_nil nd ?_
    refine then_norm ?_
    refine awp_ret ?_
    refine then_ret ?_
    have e3 := of_some h
    subst e3
    refine ret_ret ?_
    refine fin0 ttok rfl rfl ?_
    exact (wkP_refl _ rfl)
  · rw [g1]
    replace h := of_bif_f h g1
    refine go_run' ttok 1 rfl ?_
    refine go_lenT I l ttok rfl rfl rfl rfl rfl rfl ?_
    refine go_run' ttok 2 rfl ?_
    refine go_nil nd ?_
    refine then_norm ?_
    refine awp_cond (b := (decide (300 < ((l.length : Nat) : Int)))) rfl (fun c4 => ?_) (fun c4 => ?_)
    · replace h := of_bif_t h c4
      refine awp_seq ?_
      refine awp_go hmix ?_
      obtain ⟨av1, hv5, h⟩ := of_obind h
      refine go_call fn16 (l05_awake_w av1 hv5) rfl rfl rfl rfl rfl rfl rfl ?_
      refine go_run' ttok 1 rfl ?_
      refine go_nil nd ?_
      refine then_norm ?_
      refine awp_ret ?_
      refine then_ret ?_
      have e6 := of_some h
      subst e6
      refine ret_ret ?_
      refine fin0 ttok rfl rfl ?_
      exact (wkP_refl _ rfl)
    · replace h := of_bif_f h c4
      refine awp_skip ?_
      refine then_norm ?_
      refine awp_seq ?_
      refine awp_go hmix ?_
      refine go_run' ttok 1 rfl ?_
      obtain ⟨tv, hv7, h⟩ := of_obind h
      refine go_call fn17 (wire_Text_w s tv hv7) rfl rfl rfl rfl rfl rfl rfl ?_
      refine go_run' ttok 1 rfl ?_
      obtain ⟨tv1, hv8, h⟩ := of_obind h
      refine go_call fn18 (r05_Text_w s tv1 hv8) rfl rfl rfl rfl rfl rfl rfl ?_
      refine go_eqlS tv tv1 rfl rfl rfl rfl rfl ?_
      refine go_run' ttok 1 rfl ?_
      refine go_gcase rfl rfl rfl (fun g9 => ?_) (fun g9 => ?_)
      · rw [g9]
        replace h := of_bif_t h g9
        refine go_run' ttok 1 rfl ?_
        obtain ⟨iv, hv10, h⟩ := of_obind h
        refine go_call fn19 (wire_Ints_w l iv hv10) rfl rfl rfl rfl rfl rfl rfl ?_
        refine go_run' ttok 1 rfl ?_
        obtain ⟨iv1, hv11, h⟩ := of_obind h
        refine go_call fn20 (r05_Ints_w l iv1 hv11) rfl rfl rfl rfl rfl rfl rfl ?_
        refine go_eqlS iv iv1 rfl rfl rfl rfl rfl ?_
        refine go_run' ttok 2 rfl ?_
        refine go_gcase rfl rfl rfl (fun g12 => ?_) (fun g12 => ?_)
        · rw [g12]
          replace h := of_bif_t h g12
          obtain ⟨av2, hv13, h⟩ := of_obind h
          refine go_call fn16 (l05_awake_w av2 hv13) rfl rfl rfl rfl rfl rfl rfl ?_
          refine go_run' ttok 2 rfl ?_
          refine go_nil nd ?_
          refine then_norm ?_
          refine awp_ret ?_
          have e14 := of_some h
          subst e14
          refine ret_ret ?_
          refine fin0 ttok rfl rfl ?_
          exact (wkP_refl _ rfl)
        · rw [g12]
          replace h := of_bif_f h g12
          refine go_run' ttok 3 rfl ?_
          refine go_nil nd ?_
          refine then_norm ?_
          refine awp_ret ?_
          have e15 := of_some h
          subst e15
          refine ret_ret ?_
          refine fin0 ttok rfl rfl ?_
          exact (wkP_refl _ rfl)
      · rw [g9]
        replace h := of_bif_f h g9
        refine go_run' ttok 10 rfl ?_
        refine go_nil nd ?_
        refine then_norm ?_
        refine awp_ret ?_
        have e16 := of_some h
        subst e16
        refine ret_ret ?_
        refine fin0 ttok rfl rfl ?_
        exact (wkP_refl _ rfl)

/-- sawmill/sawmilllaw05.WireRanges -/
noncomputable def l05_WireRanges_g (n : Int) (s : ByteArray) (o : Tsawmilllaw05_Op) : Option Bool :=
  (bif (decide (3000 < ((s.size : Nat) : Int))) then (Option.bind l05_awake_g (fun av => some av)) else (Option.bind (wire_Int_g n) (fun iv => (letB (wire_NewReader_g iv) (fun nv => (Option.bind (wire_Reader__Int_g nv o.Low o.High) (fun iv1 => (Option.bind ((letB ((bif (decide (o.Low ≤ n)) then (decide (n ≤ o.High)) else false) : Bool) (fun vv => (bif vv then (bif (iv1.1 != n) then some (Sum.inl false) else (bif ((wire_Reader__End_g iv1.2) != 0) then some (Sum.inl false) else some (Sum.inr ()))) else (bif (iv1.1 != 0) then some (Sum.inl false) else (bif ((wire_Reader__End_g iv1.2) != 9) then some (Sum.inl false) else (bif ((wire_Reader__Left_g iv1.2) == 0) then some (Sum.inl false) else some (Sum.inr ()))))))) : Option (Bool ⊕ Unit)) (Sum.elim (fun q => some q) (fun _ => (Option.bind (wire_Text_g s) (fun tv => (letB (wire_NewReader_g tv) (fun nv1 => (Option.bind (wire_Reader__Text_g nv1 o.Most) (fun tv1 => (bif (decide (((s.size : Nat) : Int) ≤ o.Most)) then (bif (bEq tv1.1 s) then (bif ((wire_Reader__End_g tv1.2) == 0) then (Option.bind l05_awake_g (fun av1 => some av1)) else some false) else some false) else (bif (bEq tv1.1 (⟨#[]⟩ : ByteArray)) then (bif ((wire_Reader__End_g tv1.2) == 4) then (Option.bind l05_awake_g (fun av2 => some av2)) else some false) else some false))))))))))))))))))
theorem l05_WireRanges_w (n : Int) (s : ByteArray) (o : Tsawmilllaw05_Op) (r : Bool) (h : l05_WireRanges_g n s o = some r) : Holds Try.prog 5 [(I n), (S s), (encTsawmilllaw05_Op o)] [] (B r) [] := by
  unfold l05_WireRanges_g at h
  refine holds_fn Try.func5 rfl Try.ntmps5 rfl rfl rfl ?_
  refine awp_seq ?_
  refine awp_go hmix ?_
  refine go_run' ttok 2 rfl ?_
  refine go_nil nd ?_
  refine then_norm ?_
  refine awp_seq ?_
  refine awp_seq ?_
  refine awp_go hmix ?_
  refine go_run' ttok 3 rfl ?_
  refine go_nil nd ?_
  refine then_norm ?_
  refine awp_cond (b := (decide (3000 < ((s.size : Nat) : Int)))) rfl (fun c1 => ?_) (fun c1 => ?_)
  · replace h := of_bif_t h c1
    refine awp_seq ?_
    refine awp_go hmix ?_
    obtain ⟨av, hv2, h⟩ := of_obind h
    refine go_call fn16 (l05_awake_w av hv2) rfl rfl rfl rfl rfl rfl rfl ?_
    refine go_run' ttok 1 rfl ?_
    refine go_nil nd ?_
    refine then_norm ?_
    refine awp_ret ?_
    refine then_ret ?_
    have e3 := of_some h
    subst e3
    refine ret_ret ?_
    refine fin0 ttok rfl rfl ?_
    exact (wkP_refl _ rfl)
  · replace h := of_bif_f h c1
    refine awp_skip ?_
    refine then_norm ?_
    refine awp_seq ?_
    refine awp_go hmix ?_
    refine go_run' ttok 1 rfl ?_
    obtain ⟨iv, hv4, h⟩ := of_obind h
    refine go_call fn14 (wire_Int_w n iv hv4) rfl rfl rfl rfl rfl rfl rfl ?_
    obtain ⟨nv, hv5, h⟩ := of_let h
    refine go_callM (.ref 19 0 0) [] [(19, some ⟨81, 3, [(.agg [(S nv.s), (I nv.at_), (I nv.e)])]⟩)] [] [(19, some 999)] fn21 (wire_NewReader_w iv nv hv5) rfl rfl rfl rfl rfl trivial ⟨(wkP_refl _ rfl), trivial⟩ rfl rfl trivial rfl rfl ⟨⟨_, rfl, rfl, rfl, .inl ⟨rfl, nr_one rfl⟩⟩, trivial⟩ ⟨rfl, rfl, rfl⟩ rfl (fun h => absurd rfl h) rfl rfl rfl ?_
    refine go_run' ttok 1 rfl ?_
    refine go_nil nd ?_
    refine then_norm ?_
    refine awp_seq ?_
    refine awp_go hmix ?_
    refine go_run' ttok 5 rfl ?_
    obtain ⟨iv1, hv6, h⟩ := of_obind h
    refine go_callM (I iv1.1) [] [(19, some ⟨81, 3, [(.agg [(S iv1.2.s), (I iv1.2.at_), (I iv1.2.e)])]⟩)] [(1000, some 19)] [(19, some 1000)] fn22 (wire_Reader__Int_w nv o.Low o.High iv1 hv6) rfl rfl rfl rfl rfl trivial ⟨⟨rfl, rfl, rfl⟩, (wkP_refl _ rfl), (wkP_refl _ rfl), trivial⟩ rfl rfl ⟨⟨_, rfl, rfl, rfl, .inl ⟨rfl, nr_one rfl⟩⟩, trivial⟩ rfl rfl ⟨⟨_, rfl, rfl, rfl, .inl ⟨rfl, nr_one rfl⟩⟩, trivial⟩ (wkP_refl _ rfl) rfl (fun h => absurd rfl h) rfl rfl rfl ?_
    refine go_run' ttok 1 rfl ?_
    refine go_nil nd ?_
    refine then_norm ?_
    refine awp_seq ?_
    refine awp_go hmix ?_
    refine go_run' ttok 1 rfl ?_
    refine go_callM (I (wire_Reader__End_g iv1.2)) [] [(19, some ⟨81, 3, [(.agg [(S iv1.2.s), (I iv1.2.at_), (I iv1.2.e)])]⟩)] [(1000, some 19)] [(19, some 1000)] fn23 (wire_Reader__End_w iv1.2 _ rfl) rfl rfl rfl rfl rfl trivial ⟨⟨rfl, rfl, rfl⟩, trivial⟩ rfl rfl ⟨⟨_, rfl, rfl, rfl, .inl ⟨rfl, nr_one rfl⟩⟩, trivial⟩ rfl rfl ⟨⟨_, rfl, rfl, rfl, .inl ⟨rfl, nr_one rfl⟩⟩, trivial⟩ (wkP_refl _ rfl) rfl (fun h => absurd rfl h) rfl rfl rfl ?_
    refine go_run' ttok 1 rfl ?_
    refine go_nil nd ?_
    refine then_norm ?_
    obtain ⟨y, hx7, h⟩ := of_obind h
    refine awp_seqJ (X := Unit) [1, 5] [5] (fun _ => []) (fun _ => []) (fun w => Sum.inr w = y) rfl rfl ?_ ?_
    · skip
      obtain ⟨y1, hx9, hx7⟩ := of_let hx7
      refine awp_seqJ (X := Bool) [0, 1, 5, 7, 8, 9] [5, 19] (fun w1 => [(37, (B w1))]) (fun w1 => []) (fun w1 => w1 = y1) rfl rfl ?_ ?_
      · skip
        refine awp_go hmix ?_
        refine go_run' ttok 5 rfl ?_
        refine go_gcase rfl rfl rfl (fun g11 => ?_) (fun g11 => ?_)
        · rw [g11]
          replace hx9 := of_bif_t hx9 g11
          refine go_run' ttok 5 rfl ?_
          refine go_nil nd ?_
          have e12 := hx9
          refine then_norm ⟨rfl, (decide (n ≤ o.High)), [(5, some 5), (19, some 19)], ⟨rfl, rfl, rfl, rfl, rfl, ⟨wkP_id _ rfl, trivial⟩, trivial⟩, e12⟩
        · rw [g11]
          replace hx9 := of_bif_f hx9 g11
          refine go_run' ttok 5 rfl ?_
          refine go_nil nd ?_
          have e13 := hx9
          refine then_norm ⟨rfl, false, [(5, some 5), (19, some 19)], ⟨rfl, rfl, rfl, rfl, rfl, ⟨wkP_id _ rfl, trivial⟩, trivial⟩, e13⟩
      · intro vv hw10
        subst hw10
        refine awp_cond (b := vv) rfl (fun c14 => ?_) (fun c14 => ?_)
        · replace hx7 := of_bif_t hx7 c14
          refine awp_seq ?_
          refine awp_go hmix ?_
          refine go_run' ttok 4 rfl ?_
          refine go_gcase rfl rfl rfl (fun g15 => ?_) (fun g15 => ?_)
          · rw [g15]
            replace hx7 := of_bif_t hx7 g15
            refine go_run' ttok 3 rfl ?_
            refine go_nil nd ?_
            refine then_norm ?_
            refine awp_cond rfl (fun tt0 => ?_) (fun h => by cases h)
            clear tt0
            refine awp_seq ?_
            refine awp_go hmix ?_
            refine go_run' ttok 1 rfl ?_
            refine go_nil nd ?_
            refine then_norm ?_
            refine awp_ret ?_
            obtain ⟨t, hn16, hq⟩ := of_mapl' hx7
            subst hq
            have hq := of_inl h
            replace hq := of_some hq
            subst hq
            refine then_ret ?_
            have e17 := of_some hn16
            subst e17
            refine ret_ret ?_
            refine fin0 ttok rfl rfl ?_
            exact (wkP_refl _ rfl)
          · rw [g15]
            replace hx7 := of_bif_f hx7 g15
            refine go_run' ttok 3 rfl ?_
            refine go_nil nd ?_
            refine then_norm ?_
            refine awp_cond (b := ((wire_Reader__End_g iv1.2) != 0)) rfl (fun c18 => ?_) (fun c18 => ?_)
            · replace hx7 := of_bif_t hx7 c18
              refine awp_seq ?_
              refine awp_go hmix ?_
              refine go_run' ttok 1 rfl ?_
              refine go_nil nd ?_
              refine then_norm ?_
              refine awp_ret ?_
              obtain ⟨t1, hn19, hq⟩ := of_mapl' hx7
              subst hq
              have hq := of_inl h
              replace hq := of_some hq
              subst hq
              refine then_ret ?_
              have e20 := of_some hn19
              subst e20
              refine ret_ret ?_
              refine fin0 ttok rfl rfl ?_
              exact (wkP_refl _ rfl)
            · replace hx7 := of_bif_f hx7 c18
              refine awp_skip ?_
              have e21 := of_some hx7
              refine then_norm ⟨rfl, (), [(5, some 5)], ⟨rfl, rfl, rfl, rfl, rfl, trivial, trivial⟩, e21⟩
        · replace hx7 := of_bif_f hx7 c14
          refine awp_seq ?_
          refine awp_go hmix ?_
          refine go_run' ttok 3 rfl ?_
          refine go_gcase rfl rfl rfl (fun g22 => ?_) (fun g22 => ?_)
          · rw [g22]
            replace hx7 := of_bif_t hx7 g22
            refine go_run' ttok 8 rfl ?_
            refine go_nil nd ?_
            refine then_norm ?_
            refine awp_cond rfl (fun tt0 => ?_) (fun h => by cases h)
            clear tt0
            refine awp_seq ?_
            refine awp_go hmix ?_
            refine go_run' ttok 1 rfl ?_
            refine go_nil nd ?_
            refine then_norm ?_
            refine awp_ret ?_
            obtain ⟨t2, hn23, hq⟩ := of_mapl' hx7
            subst hq
            have hq := of_inl h
            replace hq := of_some hq
            subst hq
            refine then_ret ?_
            have e24 := of_some hn23
            subst e24
            refine ret_ret ?_
            refine fin0 ttok rfl rfl ?_
            exact (wkP_refl _ rfl)
          · rw [g22]
            replace hx7 := of_bif_f hx7 g22
            refine go_run' ttok 4 rfl ?_
            refine go_gcase rfl rfl rfl (fun g25 => ?_) (fun g25 => ?_)
            · rw [g25]
              replace hx7 := of_bif_t hx7 g25
              refine go_run' ttok 4 rfl ?_
              refine go_nil nd ?_
              refine then_norm ?_
              refine awp_cond rfl (fun tt0 => ?_) (fun h => by cases h)
              clear tt0
              refine awp_seq ?_
              refine awp_go hmix ?_
              refine go_run' ttok 1 rfl ?_
              refine go_nil nd ?_
              refine then_norm ?_
              refine awp_ret ?_
              obtain ⟨t3, hn26, hq⟩ := of_mapl' hx7
              subst hq
              have hq := of_inl h
              replace hq := of_some hq
              subst hq
              refine then_ret ?_
              have e27 := of_some hn26
              subst e27
              refine ret_ret ?_
              refine fin0 ttok rfl rfl ?_
              exact (wkP_refl _ rfl)
            · rw [g25]
              replace hx7 := of_bif_f hx7 g25
              refine go_run' ttok 1 rfl ?_
              refine go_callM (I (wire_Reader__Left_g iv1.2)) [] [(19, some ⟨81, 3, [(.agg [(S iv1.2.s), (I iv1.2.at_), (I iv1.2.e)])]⟩)] [(1000, some 19)] [(19, some 1000)] fn24 (wire_Reader__Left_w iv1.2 _ rfl) rfl rfl rfl rfl rfl trivial ⟨⟨rfl, rfl, rfl⟩, trivial⟩ rfl rfl ⟨⟨_, rfl, rfl, rfl, .inl ⟨rfl, nr_one rfl⟩⟩, trivial⟩ rfl rfl ⟨⟨_, rfl, rfl, rfl, .inl ⟨rfl, nr_one rfl⟩⟩, trivial⟩ (wkP_refl _ rfl) rfl (fun h => absurd rfl h) rfl rfl rfl ?_
              refine go_run' ttok 2 rfl ?_
              refine go_nil nd ?_
              refine then_norm ?_
              refine awp_cond (b := ((wire_Reader__Left_g iv1.2) == 0)) rfl (fun c28 => ?_) (fun c28 => ?_)
              · replace hx7 := of_bif_t hx7 c28
                refine awp_seq ?_
                refine awp_go hmix ?_
                refine go_run' ttok 1 rfl ?_
                refine go_nil nd ?_
                refine then_norm ?_
                refine awp_ret ?_
                obtain ⟨t4, hn29, hq⟩ := of_mapl' hx7
                subst hq
                have hq := of_inl h
                replace hq := of_some hq
                subst hq
                refine then_ret ?_
                have e30 := of_some hn29
                subst e30
                refine ret_ret ?_
                refine fin0 ttok rfl rfl ?_
                exact (wkP_refl _ rfl)
              · replace hx7 := of_bif_f hx7 c28
                refine awp_skip ?_
                have e31 := of_some hx7
                refine then_norm ⟨rfl, (), [(5, some 5)], ⟨rfl, rfl, rfl, rfl, rfl, trivial, trivial⟩, e31⟩
    · intro w hw8
      subst hw8
      replace h := of_inr h
      refine awp_seq ?_
      refine awp_go hmix ?_
      refine go_run' ttok 1 rfl ?_
      obtain ⟨tv, hv32, h⟩ := of_obind h
      refine go_call fn17 (wire_Text_w s tv hv32) rfl rfl rfl rfl rfl rfl rfl ?_
      obtain ⟨nv1, hv33, h⟩ := of_let h
      refine go_callM (.ref 58 0 0) [] [(58, some ⟨81, 3, [(.agg [(S nv1.s), (I nv1.at_), (I nv1.e)])]⟩)] [] [(58, some 999)] fn21 (wire_NewReader_w tv nv1 hv33) rfl rfl rfl rfl rfl trivial ⟨(wkP_refl _ rfl), trivial⟩ rfl rfl trivial rfl rfl ⟨⟨_, rfl, rfl, rfl, .inl ⟨rfl, nr_one rfl⟩⟩, trivial⟩ ⟨rfl, rfl, rfl⟩ rfl (fun h => absurd rfl h) rfl rfl rfl ?_
      refine go_run' ttok 1 rfl ?_
      refine go_nil nd ?_
      refine then_norm ?_
      refine awp_seq ?_
      refine awp_go hmix ?_
      refine go_run' ttok 3 rfl ?_
      obtain ⟨tv1, hv34, h⟩ := of_obind h
      refine go_callM (S tv1.1) [] [(58, some ⟨81, 3, [(.agg [(S tv1.2.s), (I tv1.2.at_), (I tv1.2.e)])]⟩)] [(1000, some 58)] [(58, some 1000)] fn25 (wire_Reader__Text_w nv1 o.Most tv1 hv34) rfl rfl rfl rfl rfl trivial ⟨⟨rfl, rfl, rfl⟩, (wkP_refl _ rfl), trivial⟩ rfl rfl ⟨⟨_, rfl, rfl, rfl, .inl ⟨rfl, nr_one rfl⟩⟩, trivial⟩ rfl rfl ⟨⟨_, rfl, rfl, rfl, .inl ⟨rfl, nr_one rfl⟩⟩, trivial⟩ (wkP_refl _ rfl) rfl (fun h => absurd rfl h) rfl rfl rfl ?_
      refine go_run' ttok 1 rfl ?_
      refine go_nil nd ?_
      refine then_norm ?_
      refine awp_seq ?_
      refine awp_go hmix ?_
      refine go_run' ttok 1 rfl ?_
      refine go_callM (I (wire_Reader__End_g tv1.2)) [] [(58, some ⟨81, 3, [(.agg [(S tv1.2.s), (I tv1.2.at_), (I tv1.2.e)])]⟩)] [(1000, some 58)] [(58, some 1000)] fn23 (wire_Reader__End_w tv1.2 _ rfl) rfl rfl rfl rfl rfl trivial ⟨⟨rfl, rfl, rfl⟩, trivial⟩ rfl rfl ⟨⟨_, rfl, rfl, rfl, .inl ⟨rfl, nr_one rfl⟩⟩, trivial⟩ rfl rfl ⟨⟨_, rfl, rfl, rfl, .inl ⟨rfl, nr_one rfl⟩⟩, trivial⟩ (wkP_refl _ rfl) rfl (fun h => absurd rfl h) rfl rfl rfl ?_
      refine go_run' ttok 1 rfl ?_
      refine go_nil nd ?_
      refine then_norm ?_
      refine awp_seq ?_
      refine awp_seq ?_
      refine awp_go hmix ?_
      refine go_run' ttok 5 rfl ?_
      refine go_nil nd ?_
      refine then_norm ?_
      refine awp_cond (b := (decide (((s.size : Nat) : Int) ≤ o.Most))) rfl (fun c35 => ?_) (fun c35 => ?_)
      · replace h := of_bif_t h c35
        refine awp_seq ?_
        refine awp_go hmix ?_
        refine go_run' ttok 2 rfl ?_
        refine go_eqlS tv1.1 s rfl rfl rfl rfl rfl ?_
        refine go_run' ttok 1 rfl ?_
        refine go_gcase rfl rfl rfl (fun g36 => ?_) (fun g36 => ?_)
        · rw [g36]
          replace h := of_bif_t h g36
          refine go_run' ttok 4 rfl ?_
          refine go_gcase rfl rfl rfl (fun g37 => ?_) (fun g37 => ?_)
          · rw [g37]
            replace h := of_bif_t h g37
            obtain ⟨av1, hv38, h⟩ := of_obind h
            refine go_call fn16 (l05_awake_w av1 hv38) rfl rfl rfl rfl rfl rfl rfl ?_
            refine go_run' ttok 2 rfl ?_
            refine go_nil nd ?_
            refine then_norm ?_
            refine awp_ret ?_
            refine then_ret ?_
            have e39 := of_some h
            subst e39
            refine ret_ret ?_
            refine fin0 ttok rfl rfl ?_
            exact (wkP_refl _ rfl)
          · rw [g37]
            replace h := of_bif_f h g37
            refine go_run' ttok 3 rfl ?_
            refine go_nil nd ?_
            refine then_norm ?_
            refine awp_ret ?_
            refine then_ret ?_
            have e40 := of_some h
            subst e40
            refine ret_ret ?_
            refine fin0 ttok rfl rfl ?_
            exact (wkP_refl _ rfl)
        · rw [g36]
          replace h := of_bif_f h g36
          refine go_run' ttok 7 rfl ?_
          refine go_nil nd ?_
          refine then_norm ?_
          refine awp_ret ?_
          refine then_ret ?_
          have e41 := of_some h
          subst e41
          refine ret_ret ?_
          refine fin0 ttok rfl rfl ?_
          exact (wkP_refl _ rfl)
      · replace h := of_bif_f h c35
        refine awp_skip ?_
        refine then_norm ?_
        refine awp_seq ?_
        refine awp_go hmix ?_
        refine go_run' ttok 1 rfl ?_
        refine go_eqlS tv1.1 (⟨#[]⟩ : ByteArray) rfl rfl rfl rfl rfl ?_
        refine go_run' ttok 1 rfl ?_
        refine go_gcase rfl rfl rfl (fun g42 => ?_) (fun g42 => ?_)
        · rw [g42]
          replace h := of_bif_t h g42
          refine go_run' ttok 4 rfl ?_
          refine go_gcase rfl rfl rfl (fun g43 => ?_) (fun g43 => ?_)
          · rw [g43]
            replace h := of_bif_t h g43
            obtain ⟨av2, hv44, h⟩ := of_obind h
            refine go_call fn16 (l05_awake_w av2 hv44) rfl rfl rfl rfl rfl rfl rfl ?_
            refine go_run' ttok 2 rfl ?_
            refine go_nil nd ?_
            refine then_norm ?_
            refine awp_ret ?_
            have e45 := of_some h
            subst e45
            refine ret_ret ?_
            refine fin0 ttok rfl rfl ?_
            exact (wkP_refl _ rfl)
          · rw [g43]
            replace h := of_bif_f h g43
            refine go_run' ttok 3 rfl ?_
            refine go_nil nd ?_
            refine then_norm ?_
            refine awp_ret ?_
            have e46 := of_some h
            subst e46
            refine ret_ret ?_
            refine fin0 ttok rfl rfl ?_
            exact (wkP_refl _ rfl)
        · rw [g42]
          replace h := of_bif_f h g42
          refine go_run' ttok 7 rfl ?_
          refine go_nil nd ?_
          refine then_norm ?_
          refine awp_ret ?_
          have e47 := of_some h
          subst e47
          refine ret_ret ?_
          refine fin0 ttok rfl rfl ?_
          exact (wkP_refl _ rfl)

/-- sawmill/sawmillref05.NewReader -/
noncomputable def r05_NewReader_g (s : ByteArray) : Tsawmillref05_Reader :=
  (⟨s, 0, 0⟩ : Tsawmillref05_Reader)
theorem r05_NewReader_w (s : ByteArray) (r : Tsawmillref05_Reader) (h : r05_NewReader_g s = r) : Holds Try.prog 26 [(S s)] [] (encTsawmillref05_Reader r) [] := by
  unfold r05_NewReader_g at h
  refine holds_fn Try.func26 rfl Try.ntmps26 rfl rfl rfl ?_
  refine awp_seq ?_
  refine awp_go hmix ?_
  refine go_run' ttok 1 rfl ?_
  refine go_nil nd ?_
  refine then_norm ?_
  refine awp_seq ?_
  refine awp_go hmix ?_
  refine go_run' ttok 3 rfl ?_
  refine go_nil nd ?_
  refine then_norm ?_
  refine awp_ret ?_
  have e1 := h
  subst e1
  refine ret_ret ?_
  refine fin0 ttok rfl rfl ?_
  exact (wkP_refl _ rfl)

noncomputable def wire_Reader__Ints_s1 (vr : Twire_Reader) (low : Int) (high : Int) (cv : (Int × Int × Int)) (vat1 : Int) (e1 : Int) (l1 : (List Int)) (i : Int) : Option ((Int × Int × (List Int) × Int) ⊕ (Int × Int × (List Int))) :=
  (bif (decide (i < cv.1)) then (bif (e1 == 0) then (Option.bind (wire_Reader__signed_g vr vat1 low high) (fun sv => (Option.bind (appO 8 l1 ([sv.1])) (fun l2 => some (Sum.inl (sv.2.1, sv.2.2, l2, (WU64 (i + 1)))))))) else some (Sum.inr (vat1, e1, l1))) else some (Sum.inr (vat1, e1, l1)))
/-- (*sawmill/wire.Reader).Ints -/
noncomputable def wire_Reader__Ints_g (vr : Twire_Reader) (most : Int) (low : Int) (high : Int) : Option ((List Int) × Twire_Reader) :=
  (bif (wire_Reader__stopped_g vr) then some ([], vr) else (Option.bind (wire_Reader__counted_g vr vr.at_ most) (fun cv => (Option.bind ((loopO (fun q => wire_Reader__Ints_s1 vr low high cv q.1 q.2.1 q.2.2.1 q.2.2.2) (cv.2.1, cv.2.2, [], 0)) : Option (Int × Int × (List Int))) (fun w1 => (letB (wire_Reader__done_g vr w1.1 w1.2.1) (fun dv => (bif (w1.2.1 != 0) then some ([], dv) else some (w1.2.2, dv)))))))))
theorem wire_Reader__Ints_w (vr : Twire_Reader) (most : Int) (low : Int) (high : Int) (r : ((List Int) × Twire_Reader)) (h : wire_Reader__Ints_g vr most low high = some r) : Holds Try.prog 49 [(.ref 1000 0 0), (I most), (I low), (I high)] [(1000, some ⟨81, 3, [(encTwire_Reader vr)]⟩)] ((encL I) r.1) [(1000, some ⟨81, 3, [(encTwire_Reader r.2)]⟩)] := by
  unfold wire_Reader__Ints_g at h
  refine holds_fn Try.func49 rfl Try.ntmps49 rfl rfl rfl ?_
  refine awp_seq ?_
  refine awp_go hmix ?_
  refine go_run' ttok 1 rfl ?_
  refine go_nil nd ?_
  refine then_norm ?_
  refine awp_seq ?_
  refine awp_seq ?_
  refine awp_go hmix ?_
  refine go_run' ttok 1 rfl ?_
  refine go_callM (B (wire_Reader__stopped_g vr)) [] [(1000, some ⟨81, 3, [(.agg [(S vr.s), (I vr.at_), (I vr.e)])]⟩)] [(1000, some 1000)] [(1000, some 1000)] fn45 (wire_Reader__stopped_w vr _ rfl) rfl rfl rfl rfl rfl trivial ⟨⟨rfl, rfl, rfl⟩, trivial⟩ rfl rfl ⟨⟨_, rfl, rfl, rfl, .inl ⟨rfl, nr_one rfl⟩⟩, trivial⟩ rfl rfl ⟨⟨_, rfl, rfl, rfl, .inl ⟨rfl, nr_one rfl⟩⟩, trivial⟩ (wkP_refl _ rfl) rfl (fun h => absurd rfl h) rfl rfl rfl ?_
  refine go_nil nd ?_
  refine then_norm ?_
  refine awp_cond (b := (wire_Reader__stopped_g vr)) rfl (fun c1 => ?_) (fun c1 => ?_)
  · replace h := of_bif_t h c1
    refine awp_seq ?_
    refine awp_go hmix ?_
    refine go_run' ttok 1 rfl ?_
    refine go_nil nd ?_
    refine then_norm ?_
    refine awp_ret ?_
    refine then_ret ?_
    have e2 := of_some h
    subst e2
    refine ret_ret ?_
    exact finB [(1000, some 1000)] ttok rfl rfl rfl rfl (wkP_nilm) ⟨⟨_, rfl, rfl, rfl, .inl ⟨rfl, nr_one rfl⟩⟩, trivial⟩
  · replace h := of_bif_f h c1
    refine awp_skip ?_
    refine then_norm ?_
    refine awp_seq ?_
    refine awp_go hmix ?_
    refine go_run' ttok 2 rfl ?_
    refine go_step rfl (as_nilCheck rfl rfl) rfl rfl rfl ?_
    refine go_run' ttok 3 rfl ?_
    obtain ⟨cv, hv3, h⟩ := of_obind h
    refine go_callM (.tup [(U64 cv.1), (I cv.2.1), (I cv.2.2)]) [] [(1000, some ⟨81, 3, [(.agg [(S vr.s), (I vr.at_), (I vr.e)])]⟩)] [(1000, some 1000)] [(1000, some 1000)] fn48 (wire_Reader__counted_w vr vr.at_ most cv hv3) rfl rfl rfl rfl rfl trivial ⟨⟨rfl, rfl, rfl⟩, (wkP_refl _ rfl), (wkP_refl _ rfl), trivial⟩ rfl rfl ⟨⟨_, rfl, rfl, rfl, .inl ⟨rfl, nr_one rfl⟩⟩, trivial⟩ rfl rfl ⟨⟨_, rfl, rfl, rfl, .inl ⟨rfl, nr_one rfl⟩⟩, trivial⟩ (wkP_refl _ rfl) rfl (fun h => absurd rfl h) rfl rfl rfl ?_
    refine go_run' ttok 7 rfl ?_
    refine go_nil nd ?_
    refine then_norm ?_
    refine awp_seq ?_
    refine awp_go hmix ?_
    refine go_run' ttok 1 rfl ?_
    refine go_nil nd ?_
    refine then_norm ?_
    obtain ⟨y, hx4, h⟩ := of_obind h
    refine awp_seqJ (X := (Int × Int × (List Int))) [0] [1000] (fun w => [(10, (I w.1)), (11, (I w.2.1)), (12, (.arr 12 0 w.2.2.length))]) (fun w => [(12, some ⟨3, 1, w.2.2.map I⟩)]) (fun w => w = y) rfl rfl ?_ ?_
    · skip
      refine awp_seq ?_
      refine awp_go hmix ?_
      refine go_run' ttok 1 rfl ?_
      refine go_nil nd ?_
      refine then_norm ?_
      refine awp_block ?_
      refine awp_loopD (X := (Int × Int × (List Int) × Int)) (Y := (Int × Int × (List Int))) [0, 2, 3, 9] [1000] (fun q => [(10, (I q.1)), (11, (I q.2.1)), (12, (.arr 12 0 q.2.2.1.length)), (13, (U64 q.2.2.2))]) (fun q => [(12, some ⟨3, 1, q.2.2.1.map I⟩)]) (fun q => wire_Reader__Ints_s1 vr low high cv q.1 q.2.1 q.2.2.1 q.2.2.2) (cv.2.1, cv.2.2, [], 0) [(12, none), (1000, some 1000)] hx4 ⟨rfl, rfl, rfl, rfl, rfl, ⟨wkP_id _ rfl, wkP_id _ rfl, ⟨rfl, rfl, (by first | rfl | simp [setI])⟩, wkP_id _ rfl, trivial⟩, ⟨rfl, trivial⟩⟩ (fun x vR vz hz6 hk7 => ?_)
      obtain ⟨vat1, e1, l1, i⟩ := x
      change wire_Reader__Ints_s1 vr low high cv vat1 e1 l1 i = _ at hz6
      unfold wire_Reader__Ints_s1 at hz6
      refine awp_seq ?_
      refine awp_seq ?_
      refine awp_go hmix ?_
      refine go_run' ttok 4 rfl ?_
      refine go_gcase rfl rfl rfl (fun g8 => ?_) (fun g8 => ?_)
      · rw [g8]
        replace hz6 := of_bif_t hz6 g8
        refine go_run' ttok 3 rfl ?_
        refine go_nil nd ?_
        refine then_norm ?_
        refine awp_cond (b := (e1 == 0)) rfl (fun c9 => ?_) (fun c9 => ?_)
        · replace hz6 := of_bif_t hz6 c9
          refine awp_skip ?_
          refine then_norm ?_
          refine awp_seq ?_
          refine awp_block ?_
          refine awp_seq ?_
          refine awp_go hmix ?_
          refine go_run' ttok 1 rfl ?_
          refine go_nil nd ?_
          refine then_norm ?_
          refine awp_seq ?_
          refine awp_go hmix ?_
          refine go_run' ttok 4 rfl ?_
          obtain ⟨sv, hv10, hz6⟩ := of_obind hz6
          refine go_callM (.tup [(I sv.1), (I sv.2.1), (I sv.2.2)]) [] [(1000, some ⟨81, 3, [(.agg [(S vr.s), (I vr.at_), (I vr.e)])]⟩)] [(1000, some 1000)] [(1000, some 1000)] fn46 (wire_Reader__signed_w vr vat1 low high sv hv10) rfl rfl rfl rfl rfl trivial ⟨⟨rfl, rfl, rfl⟩, (wkP_refl _ rfl), (wkP_refl _ rfl), (wkP_refl _ rfl), trivial⟩ rfl rfl ⟨⟨_, rfl, rfl, rfl, .inl ⟨rfl, nr_one rfl⟩⟩, trivial⟩ rfl rfl ⟨⟨_, rfl, rfl, rfl, .inl ⟨rfl, nr_one rfl⟩⟩, trivial⟩ (wkP_refl _ rfl) rfl (fun h => absurd rfl h) rfl rfl rfl ?_
          refine go_run' ttok 7 rfl ?_
          refine go_nil nd ?_
          refine then_norm ?_
          refine awp_go hmix ?_
          refine go_run' ttok 3 rfl ?_
          obtain ⟨l2, hv11, hz6⟩ := of_obind hz6
          refine go_appT I l1 ([sv.1]) l2 hv11 (fun _ => rfl) (by first | rfl | simp [setI]) (by first | rfl | simp [setI]) ttok rfl rfl rfl rfl rfl rfl rfl rfl rfl rfl rfl rfl rfl rfl rfl rfl rfl ?_
          refine go_run' ttok 1 rfl ?_
          refine go_nil nd ?_
          refine block_norm ?_
          refine then_norm ?_
          refine awp_go hmix ?_
          refine go_run' ttok 3 rfl ?_
          refine go_nil nd ?_
          have e12 := of_some hz6
          subst e12
          refine then_norm ⟨rfl, (sv.2.1, sv.2.2, l2, (WU64 (i + 1))), [(12, some 49), (1000, some 1000)], ⟨rfl, rfl, rfl, rfl, rfl, ⟨wkP_id _ rfl, wkP_id _ rfl, ⟨rfl, rfl, (by first | rfl | simp [setI])⟩, wkP_id _ rfl, trivial⟩, ⟨⟨_, rfl, rfl, rfl, wkX_map (enc := I) l2 (fun _ => rfl)⟩, trivial⟩⟩, hk7⟩
        · replace hz6 := of_bif_f hz6 c9
          refine awp_exit ?_
          refine then_exit ?_
          obtain ⟨t, hn13, hq⟩ := of_mapr' hz6
          subst hq
          have hq : t = _ := hk7
          subst hq
          refine then_exit ?_
          refine block_here ?_
          have e14 := of_some hn13
          refine then_norm ⟨rfl, (vat1, e1, l1), [(12, some 12), (1000, some 1000)], ⟨rfl, rfl, rfl, rfl, rfl, ⟨wkP_id _ rfl, wkP_id _ rfl, ⟨rfl, rfl, (by first | rfl | simp [setI])⟩, trivial⟩, ⟨⟨_, rfl, rfl, rfl, wkX_map (enc := I) l1 (fun _ => rfl)⟩, trivial⟩⟩, e14⟩
      · rw [g8]
        replace hz6 := of_bif_f hz6 g8
        refine go_run' ttok 3 rfl ?_
        refine go_nil nd ?_
        refine then_norm ?_
        refine awp_cond rfl (fun h => by cases h) (fun tt0 => ?_)
        clear tt0
        refine awp_exit ?_
        refine then_exit ?_
        obtain ⟨t1, hn15, hq⟩ := of_mapr' hz6
        subst hq
        have hq : t1 = _ := hk7
        subst hq
        refine then_exit ?_
        refine block_here ?_
        have e16 := of_some hn15
        refine then_norm ⟨rfl, (vat1, e1, l1), [(12, some 12), (1000, some 1000)], ⟨rfl, rfl, rfl, rfl, rfl, ⟨wkP_id _ rfl, wkP_id _ rfl, ⟨rfl, rfl, (by first | rfl | simp [setI])⟩, trivial⟩, ⟨⟨_, rfl, rfl, rfl, wkX_map (enc := I) l1 (fun _ => rfl)⟩, trivial⟩⟩, e16⟩
    · intro w hw5
      subst hw5
      obtain ⟨vat, e, l⟩ := w
      refine awp_seq ?_
      refine awp_go hmix ?_
      refine go_run' ttok 3 rfl ?_
      obtain ⟨dv, hv17, h⟩ := of_let h
      refine go_callM (.tup []) [] [(1000, some ⟨81, 3, [(.agg [(S dv.s), (I dv.at_), (I dv.e)])]⟩)] [(1000, some 1000)] [(1000, some 1000)] fn47 (wire_Reader__done_w vr vat e dv hv17) rfl rfl rfl rfl rfl trivial ⟨⟨rfl, rfl, rfl⟩, (wkP_refl _ rfl), (wkP_refl _ rfl), trivial⟩ rfl rfl ⟨⟨_, rfl, rfl, rfl, .inl ⟨rfl, nr_one rfl⟩⟩, trivial⟩ rfl rfl ⟨⟨_, rfl, rfl, rfl, .inl ⟨rfl, nr_one rfl⟩⟩, trivial⟩ (wkP_refl _ rfl) rfl (fun h => absurd rfl h) rfl rfl rfl ?_
      refine go_nil nd ?_
      refine then_norm ?_
      refine awp_seq ?_
      refine awp_seq ?_
      refine awp_go hmix ?_
      refine go_run' ttok 2 rfl ?_
      refine go_nil nd ?_
      refine then_norm ?_
      refine awp_cond (b := (e != 0)) rfl (fun c18 => ?_) (fun c18 => ?_)
      · replace h := of_bif_t h c18
        refine awp_seq ?_
        refine awp_go hmix ?_
        refine go_run' ttok 1 rfl ?_
        refine go_nil nd ?_
        refine then_norm ?_
        refine awp_ret ?_
        refine then_ret ?_
        have e19 := of_some h
        subst e19
        refine ret_ret ?_
        exact finB [(1000, some 1000)] ttok rfl rfl rfl rfl (wkP_nilm) ⟨⟨_, rfl, rfl, rfl, .inl ⟨rfl, nr_one rfl⟩⟩, trivial⟩
      · replace h := of_bif_f h c18
        refine awp_skip ?_
        refine then_norm ?_
        refine awp_seq ?_
        refine awp_go hmix ?_
        refine go_run' ttok 2 rfl ?_
        refine go_nil nd ?_
        refine then_norm ?_
        refine awp_freezeM [] [1000] [(12, some ⟨3, 1, l.map I⟩)] [(1000, some 1000)] [(8, (encL I l))] [] rfl rfl rfl rfl rfl ⟨rfl, by decide, trivial⟩ ⟨(wkP_lend rfl (by first | rfl | simp [setI]) (fun _ => rfl)), trivial⟩ trivial ?_
        refine awp_ret ?_
        have e20 := of_some h
        subst e20
        refine ret_ret ?_
        exact finB [(1000, some 1000)] ttok rfl rfl rfl rfl (wkP_refl _ rfl) ⟨⟨_, rfl, rfl, rfl, .inl ⟨rfl, nr_one rfl⟩⟩, trivial⟩

/-- (*sawmill/wire.Reader).Ints -/
noncomputable def wire_Reader__Ints_nil_g (most : Int) (low : Int) (high : Int) : (List Int) :=
  []
theorem wire_Reader__Ints_nil_w (most : Int) (low : Int) (high : Int) (r : (List Int)) (h : wire_Reader__Ints_nil_g most low high = r) : Holds Try.prog 49 [(.sc (.pointer none)), (I most), (I low), (I high)] [] ((encL I) r) [] := by
  unfold wire_Reader__Ints_nil_g at h
  refine holds_fn Try.func49 rfl Try.ntmps49 rfl rfl rfl ?_
  refine awp_seq ?_
  refine awp_go hmix ?_
  refine go_run' ttok 1 rfl ?_
  refine go_nil nd ?_
  refine then_norm ?_
  refine awp_seq ?_
  refine awp_seq ?_
  refine awp_go hmix ?_
  refine go_run' ttok 1 rfl ?_
  refine go_call fn45 (wire_Reader__stopped_nil_w true rfl) rfl rfl rfl rfl rfl rfl rfl ?_
  refine go_nil nd ?_
  refine then_norm ?_
  refine awp_cond rfl (fun tt0 => ?_) (fun h => by cases h)
  clear tt0
  refine awp_seq ?_
  refine awp_go hmix ?_
  refine go_run' ttok 1 rfl ?_
  refine go_nil nd ?_
  refine then_norm ?_
  refine awp_ret ?_
  refine then_ret ?_
  have e1 := h
  subst e1
  refine ret_ret ?_
  refine fin0 ttok rfl rfl ?_
  exact wkP_nilm

/-- sawmill/sawmilllaw05.read -/
noncomputable def l05_read_g (vr : Twire_Reader) (o : Tsawmilllaw05_Op) : Option (Tsawmilllaw05_Field × Twire_Reader) :=
  (bif (o.Kind == 0) then (Option.bind (wire_Reader__Uint_g vr) (fun uv => some ((⟨o.Kind, uv.1, 0, (⟨#[]⟩ : ByteArray), []⟩ : Tsawmilllaw05_Field), uv.2))) else (bif (o.Kind == 1) then (Option.bind (wire_Reader__Int_g vr o.Low o.High) (fun iv => some ((⟨o.Kind, 0, iv.1, (⟨#[]⟩ : ByteArray), []⟩ : Tsawmilllaw05_Field), iv.2))) else (bif (o.Kind == 2) then (Option.bind (wire_Reader__Text_g vr o.Most) (fun tv => some ((⟨o.Kind, 0, 0, tv.1, []⟩ : Tsawmilllaw05_Field), tv.2))) else (Option.bind (wire_Reader__Ints_g vr o.Most o.Low o.High) (fun iv1 => some ((⟨o.Kind, 0, 0, (⟨#[]⟩ : ByteArray), iv1.1⟩ : Tsawmilllaw05_Field), iv1.2))))))
theorem l05_read_w (vr : Twire_Reader) (o : Tsawmilllaw05_Op) (r : (Tsawmilllaw05_Field × Twire_Reader)) (h : l05_read_g vr o = some r) : Holds Try.prog 27 [(.ref 1000 0 0), (encTsawmilllaw05_Op o)] [(1000, some ⟨81, 3, [(encTwire_Reader vr)]⟩)] (encTsawmilllaw05_Field r.1) [(1000, some ⟨81, 3, [(encTwire_Reader r.2)]⟩)] := by
  unfold l05_read_g at h
  refine holds_fn Try.func27 rfl Try.ntmps27 rfl rfl rfl ?_
  refine awp_seq ?_
  refine awp_go hmix ?_
  refine go_run' ttok 2 rfl ?_
  refine go_nil nd ?_
  refine then_norm ?_
  refine awp_seq ?_
  refine awp_go hmix ?_
  refine go_run' ttok 5 rfl ?_
  refine go_nil nd ?_
  refine then_norm ?_
  refine awp_seq ?_
  refine awp_seq ?_
  refine awp_go hmix ?_
  refine go_run' ttok 2 rfl ?_
  refine go_nil nd ?_
  refine then_norm ?_
  refine awp_block ?_
  refine awp_seq ?_
  refine awp_go hmix ?_
  refine go_run' ttok 2 rfl ?_
  refine go_nil nd ?_
  refine then_norm ?_
  refine awp_cond (b := (o.Kind == 0)) rfl (fun c1 => ?_) (fun c1 => ?_)
  · replace h := of_bif_t h c1
    refine awp_go hmix ?_
    refine go_run' ttok 1 rfl ?_
    obtain ⟨uv, hv2, h⟩ := of_obind h
    refine go_callM (U64 uv.1) [] [(1000, some ⟨81, 3, [(.agg [(S uv.2.s), (I uv.2.at_), (I uv.2.e)])]⟩)] [(1000, some 1000)] [(1000, some 1000)] fn42 (wire_Reader__Uint_w vr uv hv2) rfl rfl rfl rfl rfl trivial ⟨⟨rfl, rfl, rfl⟩, trivial⟩ rfl rfl ⟨⟨_, rfl, rfl, rfl, .inl ⟨rfl, nr_one rfl⟩⟩, trivial⟩ rfl rfl ⟨⟨_, rfl, rfl, rfl, .inl ⟨rfl, nr_one rfl⟩⟩, trivial⟩ (wkP_refl _ rfl) rfl (fun h => absurd rfl h) rfl rfl rfl ?_
    refine go_run' ttok 2 rfl ?_
    refine go_nil nd ?_
    refine block_norm ?_
    refine then_norm ?_
    refine awp_seq ?_
    refine awp_go hmix ?_
    refine go_run' ttok 2 rfl ?_
    refine go_nil nd ?_
    refine then_norm ?_
    refine awp_ret ?_
    have e3 := of_some h
    subst e3
    refine ret_ret ?_
    exact finB [(1000, some 1000)] ttok rfl rfl rfl rfl ⟨(wkP_refl _ rfl), (wkP_refl _ rfl), (wkP_refl _ rfl), (wkP_refl _ rfl), wkP_nilm, trivial⟩ ⟨⟨_, rfl, rfl, rfl, .inl ⟨rfl, nr_one rfl⟩⟩, trivial⟩
  · replace h := of_bif_f h c1
    refine awp_seq ?_
    refine awp_go hmix ?_
    refine go_run' ttok 2 rfl ?_
    refine go_nil nd ?_
    refine then_norm ?_
    refine awp_cond (b := (o.Kind == 1)) rfl (fun c4 => ?_) (fun c4 => ?_)
    · replace h := of_bif_t h c4
      refine awp_go hmix ?_
      refine go_run' ttok 5 rfl ?_
      obtain ⟨iv, hv5, h⟩ := of_obind h
      refine go_callM (I iv.1) [] [(1000, some ⟨81, 3, [(.agg [(S iv.2.s), (I iv.2.at_), (I iv.2.e)])]⟩)] [(1000, some 1000)] [(1000, some 1000)] fn22 (wire_Reader__Int_w vr o.Low o.High iv hv5) rfl rfl rfl rfl rfl trivial ⟨⟨rfl, rfl, rfl⟩, (wkP_refl _ rfl), (wkP_refl _ rfl), trivial⟩ rfl rfl ⟨⟨_, rfl, rfl, rfl, .inl ⟨rfl, nr_one rfl⟩⟩, trivial⟩ rfl rfl ⟨⟨_, rfl, rfl, rfl, .inl ⟨rfl, nr_one rfl⟩⟩, trivial⟩ (wkP_refl _ rfl) rfl (fun h => absurd rfl h) rfl rfl rfl ?_
      refine go_run' ttok 2 rfl ?_
      refine go_nil nd ?_
      refine block_norm ?_
      refine then_norm ?_
      refine awp_seq ?_
      refine awp_go hmix ?_
      refine go_run' ttok 2 rfl ?_
      refine go_nil nd ?_
      refine then_norm ?_
      refine awp_ret ?_
      have e6 := of_some h
      subst e6
      refine ret_ret ?_
      exact finB [(1000, some 1000)] ttok rfl rfl rfl rfl ⟨(wkP_refl _ rfl), (wkP_refl _ rfl), (wkP_refl _ rfl), (wkP_refl _ rfl), wkP_nilm, trivial⟩ ⟨⟨_, rfl, rfl, rfl, .inl ⟨rfl, nr_one rfl⟩⟩, trivial⟩
    · replace h := of_bif_f h c4
      refine awp_seq ?_
      refine awp_go hmix ?_
      refine go_run' ttok 2 rfl ?_
      refine go_nil nd ?_
      refine then_norm ?_
      refine awp_cond (b := (o.Kind == 2)) rfl (fun c7 => ?_) (fun c7 => ?_)
      · replace h := of_bif_t h c7
        refine awp_go hmix ?_
        refine go_run' ttok 3 rfl ?_
        obtain ⟨tv, hv8, h⟩ := of_obind h
        refine go_callM (S tv.1) [] [(1000, some ⟨81, 3, [(.agg [(S tv.2.s), (I tv.2.at_), (I tv.2.e)])]⟩)] [(1000, some 1000)] [(1000, some 1000)] fn25 (wire_Reader__Text_w vr o.Most tv hv8) rfl rfl rfl rfl rfl trivial ⟨⟨rfl, rfl, rfl⟩, (wkP_refl _ rfl), trivial⟩ rfl rfl ⟨⟨_, rfl, rfl, rfl, .inl ⟨rfl, nr_one rfl⟩⟩, trivial⟩ rfl rfl ⟨⟨_, rfl, rfl, rfl, .inl ⟨rfl, nr_one rfl⟩⟩, trivial⟩ (wkP_refl _ rfl) rfl (fun h => absurd rfl h) rfl rfl rfl ?_
        refine go_run' ttok 2 rfl ?_
        refine go_nil nd ?_
        refine block_norm ?_
        refine then_norm ?_
        refine awp_seq ?_
        refine awp_go hmix ?_
        refine go_run' ttok 2 rfl ?_
        refine go_nil nd ?_
        refine then_norm ?_
        refine awp_ret ?_
        have e9 := of_some h
        subst e9
        refine ret_ret ?_
        exact finB [(1000, some 1000)] ttok rfl rfl rfl rfl ⟨(wkP_refl _ rfl), (wkP_refl _ rfl), (wkP_refl _ rfl), (wkP_refl _ rfl), wkP_nilm, trivial⟩ ⟨⟨_, rfl, rfl, rfl, .inl ⟨rfl, nr_one rfl⟩⟩, trivial⟩
      · replace h := of_bif_f h c7
        refine awp_go hmix ?_
        refine go_run' ttok 7 rfl ?_
        obtain ⟨iv1, hv10, h⟩ := of_obind h
        refine go_callM (encL I iv1.1) [] [(1000, some ⟨81, 3, [(.agg [(S iv1.2.s), (I iv1.2.at_), (I iv1.2.e)])]⟩)] [(1000, some 1000)] [(1000, some 1000)] fn49 (wire_Reader__Ints_w vr o.Most o.Low o.High iv1 hv10) rfl rfl rfl rfl rfl trivial ⟨⟨rfl, rfl, rfl⟩, (wkP_refl _ rfl), (wkP_refl _ rfl), (wkP_refl _ rfl), trivial⟩ rfl rfl ⟨⟨_, rfl, rfl, rfl, .inl ⟨rfl, nr_one rfl⟩⟩, trivial⟩ rfl rfl ⟨⟨_, rfl, rfl, rfl, .inl ⟨rfl, nr_one rfl⟩⟩, trivial⟩ (wkP_refl _ rfl) rfl (fun h => absurd rfl h) rfl rfl rfl ?_
        refine go_run' ttok 2 rfl ?_
        refine go_nil nd ?_
        refine block_norm ?_
        refine then_norm ?_
        refine awp_seq ?_
        refine awp_go hmix ?_
        refine go_run' ttok 2 rfl ?_
        refine go_nil nd ?_
        refine then_norm ?_
        refine awp_ret ?_
        have e11 := of_some h
        subst e11
        refine ret_ret ?_
        exact finB [(1000, some 1000)] ttok rfl rfl rfl rfl (wkP_refl _ rfl) ⟨⟨_, rfl, rfl, rfl, .inl ⟨rfl, nr_one rfl⟩⟩, trivial⟩

/-- sawmill/sawmilllaw05.read -/
noncomputable def l05_read_nil_g (o : Tsawmilllaw05_Op) : Tsawmilllaw05_Field :=
  (bif (o.Kind == 0) then (⟨o.Kind, wire_Reader__Uint_nil_g, 0, (⟨#[]⟩ : ByteArray), []⟩ : Tsawmilllaw05_Field) else (bif (o.Kind == 1) then (⟨o.Kind, 0, (wire_Reader__Int_nil_g o.Low o.High), (⟨#[]⟩ : ByteArray), []⟩ : Tsawmilllaw05_Field) else (bif (o.Kind == 2) then (⟨o.Kind, 0, 0, (wire_Reader__Text_nil_g o.Most), []⟩ : Tsawmilllaw05_Field) else (letB (wire_Reader__Ints_nil_g o.Most o.Low o.High) (fun iv => (⟨o.Kind, 0, 0, (⟨#[]⟩ : ByteArray), iv⟩ : Tsawmilllaw05_Field))))))
theorem l05_read_nil_w (o : Tsawmilllaw05_Op) (r : Tsawmilllaw05_Field) (h : l05_read_nil_g o = r) : Holds Try.prog 27 [(.sc (.pointer none)), (encTsawmilllaw05_Op o)] [] (encTsawmilllaw05_Field r) [] := by
  unfold l05_read_nil_g at h
  refine holds_fn Try.func27 rfl Try.ntmps27 rfl rfl rfl ?_
  refine awp_seq ?_
  refine awp_go hmix ?_
  refine go_run' ttok 2 rfl ?_
  refine go_nil nd ?_
  refine then_norm ?_
  refine awp_seq ?_
  refine awp_go hmix ?_
  refine go_run' ttok 5 rfl ?_
  refine go_nil nd ?_
  refine then_norm ?_
  refine awp_seq ?_
  refine awp_seq ?_
  refine awp_go hmix ?_
  refine go_run' ttok 2 rfl ?_
  refine go_nil nd ?_
  refine then_norm ?_
  refine awp_block ?_
  refine awp_seq ?_
  refine awp_go hmix ?_
  refine go_run' ttok 2 rfl ?_
  refine go_nil nd ?_
  refine then_norm ?_
  refine awp_cond (b := (o.Kind == 0)) rfl (fun c1 => ?_) (fun c1 => ?_)
  · replace h := of_bif_t h c1
    refine awp_go hmix ?_
    refine go_run' ttok 1 rfl ?_
    refine go_call fn42 (wire_Reader__Uint_nil_w _ rfl) rfl rfl rfl rfl rfl rfl rfl ?_
    refine go_run' ttok 2 rfl ?_
    refine go_nil nd ?_
    refine block_norm ?_
    refine then_norm ?_
    refine awp_seq ?_
    refine awp_go hmix ?_
    refine go_run' ttok 2 rfl ?_
    refine go_nil nd ?_
    refine then_norm ?_
    refine awp_ret ?_
    have e2 := h
    subst e2
    refine ret_ret ?_
    refine fin0 ttok rfl rfl ?_
    exact ⟨(wkP_refl _ rfl), (wkP_refl _ rfl), (wkP_refl _ rfl), (wkP_refl _ rfl), wkP_nilm, trivial⟩
  · replace h := of_bif_f h c1
    refine awp_seq ?_
    refine awp_go hmix ?_
    refine go_run' ttok 2 rfl ?_
    refine go_nil nd ?_
    refine then_norm ?_
    refine awp_cond (b := (o.Kind == 1)) rfl (fun c3 => ?_) (fun c3 => ?_)
    · replace h := of_bif_t h c3
      refine awp_go hmix ?_
      refine go_run' ttok 5 rfl ?_
      refine go_call fn22 (wire_Reader__Int_nil_w o.Low o.High _ rfl) rfl rfl rfl rfl rfl rfl rfl ?_
      refine go_run' ttok 2 rfl ?_
      refine go_nil nd ?_
      refine block_norm ?_
      refine then_norm ?_
      refine awp_seq ?_
      refine awp_go hmix ?_
      refine go_run' ttok 2 rfl ?_
      refine go_nil nd ?_
      refine then_norm ?_
      refine awp_ret ?_
      have e4 := h
      subst e4
      refine ret_ret ?_
      refine fin0 ttok rfl rfl ?_
      exact ⟨(wkP_refl _ rfl), (wkP_refl _ rfl), (wkP_refl _ rfl), (wkP_refl _ rfl), wkP_nilm, trivial⟩
    · replace h := of_bif_f h c3
      refine awp_seq ?_
      refine awp_go hmix ?_
      refine go_run' ttok 2 rfl ?_
      refine go_nil nd ?_
      refine then_norm ?_
      refine awp_cond (b := (o.Kind == 2)) rfl (fun c5 => ?_) (fun c5 => ?_)
      · replace h := of_bif_t h c5
        refine awp_go hmix ?_
        refine go_run' ttok 3 rfl ?_
        refine go_call fn25 (wire_Reader__Text_nil_w o.Most _ rfl) rfl rfl rfl rfl rfl rfl rfl ?_
        refine go_run' ttok 2 rfl ?_
        refine go_nil nd ?_
        refine block_norm ?_
        refine then_norm ?_
        refine awp_seq ?_
        refine awp_go hmix ?_
        refine go_run' ttok 2 rfl ?_
        refine go_nil nd ?_
        refine then_norm ?_
        refine awp_ret ?_
        have e6 := h
        subst e6
        refine ret_ret ?_
        refine fin0 ttok rfl rfl ?_
        exact ⟨(wkP_refl _ rfl), (wkP_refl _ rfl), (wkP_refl _ rfl), (wkP_refl _ rfl), wkP_nilm, trivial⟩
      · replace h := of_bif_f h c5
        refine awp_go hmix ?_
        refine go_run' ttok 7 rfl ?_
        obtain ⟨iv, hv7, h⟩ := of_let h
        refine go_call fn49 (wire_Reader__Ints_nil_w o.Most o.Low o.High iv hv7) rfl rfl rfl rfl rfl rfl rfl ?_
        refine go_run' ttok 2 rfl ?_
        refine go_nil nd ?_
        refine block_norm ?_
        refine then_norm ?_
        refine awp_seq ?_
        refine awp_go hmix ?_
        refine go_run' ttok 2 rfl ?_
        refine go_nil nd ?_
        refine then_norm ?_
        refine awp_ret ?_
        have e8 := h
        subst e8
        refine ret_ret ?_
        refine fin0 ttok rfl rfl ?_
        exact (wkP_refl _ rfl)

end Go.Proofs.Ytlkmdaojdongjaa
