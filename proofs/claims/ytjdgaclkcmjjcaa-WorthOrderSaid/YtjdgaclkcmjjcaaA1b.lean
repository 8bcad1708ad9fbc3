/- A1b: what functions of the program compute (written by mod.py). -/
import Derived.Test.YtjdgaclkcmjjcaaA1a
import Derived.KernelRfl
namespace Go.Proofs.Ytjdgaclkcmjjcaa
open Go Go.Ab
set_option linter.unusedSimpArgs false
set_option linter.unusedVariables false
set_option maxRecDepth 20000

/-- sawmill/solid.valid -/
noncomputable def solid_valid_g (l : (List TSlice)) : Option (List TSlice) :=
  (Option.bind (solid_Check_g l) (fun cv => (bif (cv != 0) then some ([]) else some l)))
theorem solid_valid_w (l : (List TSlice)) (r : (List TSlice)) (h : solid_valid_g l = some r) : Holds Try.prog 46 [((encL encTSlice) l)] [] ((encL encTSlice) r) [] := by
  unfold solid_valid_g at h
  refine holds_fn Try.func46 rfl Try.ntmps46 rfl rfl rfl ?_
  refine awp_seq ?_
  refine awp_go hmix ?_
  refine go_run' ttok 1 rfl ?_
  refine go_nil nd ?_
  refine then_norm ?_
  refine awp_seq ?_
  refine awp_seq ?_
  refine awp_go hmix ?_
  refine go_run' ttok 1 rfl ?_
  obtain ⟨cv, hv1, h⟩ := of_obind h
  refine go_call fn25 (solid_Check_w l cv hv1) rfl rfl rfl rfl rfl rfl rfl ?_
  refine go_run' ttok 1 rfl ?_
  refine go_nil nd ?_
  refine then_norm ?_
  refine awp_cond (b := (cv != 0)) rfl (fun c2 => ?_) (fun c2 => ?_)
  · replace h := of_bif_t h c2
    refine awp_seq ?_
    refine awp_go hmix ?_
    refine go_run' ttok 1 rfl ?_
    refine go_nil nd ?_
    refine then_norm ?_
    refine awp_ret ?_
    refine then_ret ?_
    have e3 := of_some h
    subst e3
    refine ret_ret ?_
    refine fin0 ttok rfl rfl ?_
    exact wkP_nilm
  · replace h := of_bif_f h c2
    refine awp_skip ?_
    refine then_norm ?_
    refine awp_seq ?_
    refine awp_go hmix ?_
    refine go_run' ttok 2 rfl ?_
    refine go_nil nd ?_
    refine then_norm ?_
    refine awp_ret ?_
    have e4 := of_some h
    subst e4
    refine ret_ret ?_
    refine fin0 ttok rfl rfl ?_
    exact (wkP_refl _ rfl)
noncomputable def solid_valid_c (N : Nat) (l : (List TSlice)) : Option (List TSlice) :=
  (Option.bind ((solid_Check_c N) l) (fun cv => (bif (cv != 0) then some ([]) else some l)))
theorem solid_valid_le (N : Nat) (l : (List TSlice)) : OLe (solid_valid_c N l) (solid_valid_g l) := by
  unfold solid_valid_c solid_valid_g
  repeat' (first | exact ole_rfl | exact solid_Check_le _ _ | refine ole_bif ?_ ?_ | refine ole_bind ?_ (fun _ => ?_) | refine ole_let (fun _ => ?_) | refine ole_map ?_ | refine ole_elim (fun _ => ?_) (fun _ => ?_) | refine ole_loop (fun _ => ?_))

noncomputable def solid_Length_s1 (vv : (List TSlice)) (length1 : Int) (vv1 : Int) : Option ((Int × Int) ⊕ Int) :=
  (bif (decide (vv1 < ((vv.length : Nat) : Int))) then (Option.bind (getI vv vv1) (fun e => some (Sum.inl ((W64 (length1 + e.Len)), (W64 (vv1 + 1)))))) else some (Sum.inr length1))
/-- sawmill/solid.Length -/
noncomputable def solid_Length_g (l : (List TSlice)) : Option Int :=
  (Option.bind ((Option.bind (solid_valid_g l) (fun vv => (loopO (fun q => solid_Length_s1 vv q.1 q.2) (0, 0)))) : Option Int) (fun length => some length))
theorem solid_Length_w (l : (List TSlice)) (r : Int) (h : solid_Length_g l = some r) : Holds Try.prog 27 [((encL encTSlice) l)] [] (I r) [] := by
  unfold solid_Length_g at h
  refine holds_fn Try.func27 rfl Try.ntmps27 rfl rfl rfl ?_
  refine awp_seq ?_
  refine awp_go hmix ?_
  refine go_run' ttok 1 rfl ?_
  refine go_nil nd ?_
  refine then_norm ?_
  refine awp_seq ?_
  refine awp_go hmix ?_
  refine go_run' ttok 1 rfl ?_
  refine go_nil nd ?_
  refine then_norm ?_
  obtain ⟨y, hx1, h⟩ := of_obind h
  refine awp_seqJ (X := Int) [] [] (fun w => [(3, (I w))]) (fun w => []) (fun w => w = y) rfl rfl ?_ ?_
  · skip
    refine awp_seq ?_
    refine awp_go hmix ?_
    refine go_run' ttok 1 rfl ?_
    obtain ⟨vv, hv3, hx1⟩ := of_obind hx1
    refine go_call fn46 (solid_valid_w l vv hv3) rfl rfl rfl rfl rfl rfl rfl ?_
    refine go_lenT encTSlice vv ttok rfl rfl rfl rfl rfl rfl ?_
    refine go_run' ttok 1 rfl ?_
    refine go_nil nd ?_
    refine then_norm ?_
    refine awp_block ?_
    refine awp_loopD (X := (Int × Int)) (Y := Int) [7, 8] [] (fun q => [(3, (I q.1)), (9, (I q.2))]) (fun q => []) (fun q => solid_Length_s1 vv q.1 q.2) (0, 0) [] hx1 ⟨rfl, rfl, rfl, rfl, rfl, ⟨wkP_id _ rfl, wkP_id _ rfl, trivial⟩, trivial⟩ (fun x vR vz hz4 hk5 => ?_)
    obtain ⟨length1, vv1⟩ := x
    change solid_Length_s1 vv length1 vv1 = _ at hz4
    unfold solid_Length_s1 at hz4
    refine awp_seq ?_
    refine awp_go hmix ?_
    refine go_run' ttok 1 rfl ?_
    refine go_nil nd ?_
    refine then_norm ?_
    refine awp_seq ?_
    refine awp_cond (b := (decide (vv1 < ((vv.length : Nat) : Int)))) rfl (fun c6 => ?_) (fun c6 => ?_)
    · replace hz4 := of_bif_t hz4 c6
      refine awp_skip ?_
      refine then_norm ?_
      refine awp_seq ?_
      refine awp_block ?_
      refine awp_seq ?_
      refine awp_go hmix ?_
      obtain ⟨e, hv7, hz4⟩ := of_obind hz4
      refine go_indexT encTSlice vv vv1 e hv7 ttok rfl rfl rfl rfl rfl rfl rfl rfl rfl ?_
      refine go_run' ttok 3 rfl ?_
      refine go_nil nd ?_
      refine then_norm ?_
      refine awp_go hmix ?_
      refine go_run' ttok 5 rfl ?_
      refine go_nil nd ?_
      refine block_norm ?_
      refine then_norm ?_
      refine awp_go hmix ?_
      refine go_run' ttok 2 rfl ?_
      refine go_nil nd ?_
      have e8 := of_some hz4
      subst e8
      refine then_norm ⟨rfl, ((W64 (length1 + e.Len)), (W64 (vv1 + 1))), [], ⟨rfl, rfl, rfl, rfl, rfl, ⟨wkP_id _ rfl, wkP_id _ rfl, trivial⟩, trivial⟩, hk5⟩
    · replace hz4 := of_bif_f hz4 c6
      refine awp_exit ?_
      refine then_exit ?_
      obtain ⟨t, hn9, hq⟩ := of_mapr' hz4
      subst hq
      have hq : t = _ := hk5
      subst hq
      refine then_exit ?_
      refine block_here ?_
      have e10 := of_some hn9
      refine then_norm ⟨rfl, length1, [], ⟨rfl, rfl, rfl, rfl, rfl, ⟨wkP_id _ rfl, trivial⟩, trivial⟩, e10⟩
  · intro length hw2
    subst hw2
    refine awp_seq ?_
    refine awp_go hmix ?_
    refine go_run' ttok 2 rfl ?_
    refine go_nil nd ?_
    refine then_norm ?_
    refine awp_ret ?_
    have e11 := of_some h
    subst e11
    refine ret_ret ?_
    refine fin0 ttok rfl rfl ?_
    exact (wkP_refl _ rfl)
noncomputable def solid_Length_cs1 (N : Nat) (vv : (List TSlice)) (length1 : Int) (vv1 : Int) : Option ((Int × Int) ⊕ Int) :=
  (bif (decide (vv1 < ((vv.length : Nat) : Int))) then (Option.bind (getI vv vv1) (fun e => some (Sum.inl ((W64 (length1 + e.Len)), (W64 (vv1 + 1)))))) else some (Sum.inr length1))
theorem solid_Length_cs1_le (N : Nat) (vv : (List TSlice)) (length1 : Int) (vv1 : Int) : OLe (solid_Length_cs1 N vv length1 vv1) (solid_Length_s1 vv length1 vv1) := by
  unfold solid_Length_cs1 solid_Length_s1
  repeat' (first | exact ole_rfl | exact solid_valid_le _ _ | refine ole_bif ?_ ?_ | refine ole_bind ?_ (fun _ => ?_) | refine ole_let (fun _ => ?_) | refine ole_map ?_ | refine ole_elim (fun _ => ?_) (fun _ => ?_) | refine ole_loop (fun _ => ?_))
noncomputable def solid_Length_c (N : Nat) (l : (List TSlice)) : Option Int :=
  (Option.bind ((Option.bind ((solid_valid_c N) l) (fun vv => (iterX N (fun q => solid_Length_cs1 N vv q.1 q.2) (0, 0)))) : Option Int) (fun length => some length))
theorem solid_Length_le (N : Nat) (l : (List TSlice)) : OLe (solid_Length_c N l) (solid_Length_g l) := by
  unfold solid_Length_c solid_Length_g
  repeat' (first | exact ole_rfl | exact solid_valid_le _ _ | exact solid_Length_cs1_le _ _ _ _ | refine ole_bif ?_ ?_ | refine ole_bind ?_ (fun _ => ?_) | refine ole_let (fun _ => ?_) | refine ole_map ?_ | refine ole_elim (fun _ => ?_) (fun _ => ?_) | refine ole_loop (fun _ => ?_))

/-- sawmill/section.valid -/
noncomputable def section_valid_g (s : TSection) : Option TSection :=
  (Option.bind (section_Check_g s) (fun cv => (bif (cv != 0) then some (⟨0, []⟩ : TSection) else some s)))
theorem section_valid_w (s : TSection) (r : TSection) (h : section_valid_g s = some r) : Holds Try.prog 66 [(encTSection s)] [] (encTSection r) [] := by
  unfold section_valid_g at h
  refine holds_fn Try.func66 rfl Try.ntmps66 rfl rfl rfl ?_
  refine awp_seq ?_
  refine awp_go hmix ?_
  refine go_run' ttok 2 rfl ?_
  refine go_nil nd ?_
  refine then_norm ?_
  refine awp_seq ?_
  refine awp_seq ?_
  refine awp_go hmix ?_
  refine go_run' ttok 1 rfl ?_
  obtain ⟨cv, hv1, h⟩ := of_obind h
  refine go_call fn45 (section_Check_w s cv hv1) rfl rfl rfl rfl rfl rfl rfl ?_
  refine go_run' ttok 1 rfl ?_
  refine go_nil nd ?_
  refine then_norm ?_
  refine awp_cond (b := (cv != 0)) rfl (fun c2 => ?_) (fun c2 => ?_)
  · replace h := of_bif_t h c2
    refine awp_seq ?_
    refine awp_go hmix ?_
    refine go_run' ttok 2 rfl ?_
    refine go_nil nd ?_
    refine then_norm ?_
    refine awp_ret ?_
    refine then_ret ?_
    have e3 := of_some h
    subst e3
    refine ret_ret ?_
    refine fin0 ttok rfl rfl ?_
    exact ⟨(wkP_refl _ rfl), wkP_nilm, trivial⟩
  · replace h := of_bif_f h c2
    refine awp_skip ?_
    refine then_norm ?_
    refine awp_seq ?_
    refine awp_go hmix ?_
    refine go_run' ttok 2 rfl ?_
    refine go_nil nd ?_
    refine then_norm ?_
    refine awp_ret ?_
    have e4 := of_some h
    subst e4
    refine ret_ret ?_
    refine fin0 ttok rfl rfl ?_
    exact (wkP_refl _ rfl)
noncomputable def section_valid_c (N : Nat) (s : TSection) : Option TSection :=
  (Option.bind ((section_Check_c N) s) (fun cv => (bif (cv != 0) then some (⟨0, []⟩ : TSection) else some s)))
theorem section_valid_le (N : Nat) (s : TSection) : OLe (section_valid_c N s) (section_valid_g s) := by
  unfold section_valid_c section_valid_g
  repeat' (first | exact ole_rfl | exact section_Check_le _ _ | refine ole_bif ?_ ?_ | refine ole_bind ?_ (fun _ => ?_) | refine ole_let (fun _ => ?_) | refine ole_map ?_ | refine ole_elim (fun _ => ?_) (fun _ => ?_) | refine ole_loop (fun _ => ?_))

/-- sawmill/section.heights -/
noncomputable def section_heights_g (vfrom : Int) (vuntil : Int) : Sp :=
  (⟨(W64 (10 * vfrom)), (W64 (10 * vuntil))⟩ : Sp)
theorem section_heights_w (vfrom : Int) (vuntil : Int) (r : Sp) (h : section_heights_g vfrom vuntil = r) : Holds Try.prog 67 [(I vfrom), (I vuntil)] [] (encSp r) [] := by
  unfold section_heights_g at h
  refine holds_fn Try.func67 rfl Try.ntmps67 rfl rfl rfl ?_
  refine awp_seq ?_
  refine awp_go hmix ?_
  refine go_run' ttok 1 rfl ?_
  refine go_nil nd ?_
  refine then_norm ?_
  refine awp_seq ?_
  refine awp_go hmix ?_
  refine go_run' ttok 6 rfl ?_
  refine go_nil nd ?_
  refine then_norm ?_
  refine awp_ret ?_
  have e1 := h
  subst e1
  refine ret_ret ?_
  refine fin0 ttok rfl rfl ?_
  exact (wkP_refl _ rfl)

/-- sawmill/span.Meet -/
noncomputable def span_Meet_g (a : Sp) (b : Sp) : Sp :=
  (bif (decide ((min a.b b.b) ≤ (max a.a b.a))) then (⟨0, 0⟩ : Sp) else (⟨(max a.a b.a), (min a.b b.b)⟩ : Sp))
theorem span_Meet_w (a : Sp) (b : Sp) (r : Sp) (h : span_Meet_g a b = r) : Holds Try.prog 49 [(encSp a), (encSp b)] [] (encSp r) [] := by
  unfold span_Meet_g at h
  refine holds_fn Try.func49 rfl Try.ntmps49 rfl rfl rfl ?_
  refine awp_seq ?_
  refine awp_go hmix ?_
  refine go_run' ttok 3 rfl ?_
  refine go_nil nd ?_
  refine then_norm ?_
  refine awp_seq ?_
  refine awp_go hmix ?_
  refine go_run' ttok 13 rfl ?_
  refine go_nil nd ?_
  refine then_norm ?_
  refine awp_seq ?_
  refine awp_seq ?_
  refine awp_go hmix ?_
  refine go_run' ttok 5 rfl ?_
  refine go_nil nd ?_
  refine then_norm ?_
  refine awp_cond (b := (decide ((min a.b b.b) ≤ (max a.a b.a)))) rfl (fun c1 => ?_) (fun c1 => ?_)
  · replace h := of_bif_t h c1
    refine awp_seq ?_
    refine awp_go hmix ?_
    refine go_run' ttok 2 rfl ?_
    refine go_nil nd ?_
    refine then_norm ?_
    refine awp_ret ?_
    refine then_ret ?_
    have e2 := h
    subst e2
    refine ret_ret ?_
    refine fin0 ttok rfl rfl ?_
    exact (wkP_refl _ rfl)
  · replace h := of_bif_f h c1
    refine awp_skip ?_
    refine then_norm ?_
    refine awp_seq ?_
    refine awp_go hmix ?_
    refine go_run' ttok 2 rfl ?_
    refine go_nil nd ?_
    refine then_norm ?_
    refine awp_ret ?_
    have e3 := h
    subst e3
    refine ret_ret ?_
    refine fin0 ttok rfl rfl ?_
    exact (wkP_refl _ rfl)

/-- sawmill/span.size -/
noncomputable def span_size_g (s : Sp) : Int :=
  (bif (decide (s.b ≤ s.a)) then 0 else (WU64 ((WU64 s.b) - (WU64 s.a))))
theorem span_size_w (s : Sp) (r : Int) (h : span_size_g s = r) : Holds Try.prog 65 [(encSp s)] [] (U64 r) [] := by
  unfold span_size_g at h
  refine holds_fn Try.func65 rfl Try.ntmps65 rfl rfl rfl ?_
  refine awp_seq ?_
  refine awp_go hmix ?_
  refine go_run' ttok 2 rfl ?_
  refine go_nil nd ?_
  refine then_norm ?_
  refine awp_seq ?_
  refine awp_seq ?_
  refine awp_go hmix ?_
  refine go_run' ttok 5 rfl ?_
  refine go_nil nd ?_
  refine then_norm ?_
  refine awp_cond (b := (decide (s.b ≤ s.a))) rfl (fun c1 => ?_) (fun c1 => ?_)
  · replace h := of_bif_t h c1
    refine awp_seq ?_
    refine awp_go hmix ?_
    refine go_run' ttok 1 rfl ?_
    refine go_nil nd ?_
    refine then_norm ?_
    refine awp_ret ?_
    refine then_ret ?_
    have e2 := h
    subst e2
    refine ret_ret ?_
    refine fin0 ttok rfl rfl ?_
    exact (wkP_refl _ rfl)
  · replace h := of_bif_f h c1
    refine awp_skip ?_
    refine then_norm ?_
    refine awp_seq ?_
    refine awp_go hmix ?_
    refine go_run' ttok 8 rfl ?_
    refine go_nil nd ?_
    refine then_norm ?_
    refine awp_ret ?_
    have e3 := h
    subst e3
    refine ret_ret ?_
    refine fin0 ttok rfl rfl ?_
    exact (wkP_refl _ rfl)

/-- sawmill/span.limited -/
noncomputable def span_limited_g (n : Int) : Int :=
  (W64 (min n 9223372036854775807))
theorem span_limited_w (n : Int) (r : Int) (h : span_limited_g n = r) : Holds Try.prog 64 [(U64 n)] [] (I r) [] := by
  unfold span_limited_g at h
  refine holds_fn Try.func64 rfl Try.ntmps64 rfl rfl rfl ?_
  refine awp_seq ?_
  refine awp_go hmix ?_
  refine go_run' ttok 1 rfl ?_
  refine go_nil nd ?_
  refine then_norm ?_
  refine awp_seq ?_
  refine awp_go hmix ?_
  refine go_run' ttok 4 rfl ?_
  refine go_nil nd ?_
  refine then_norm ?_
  refine awp_ret ?_
  have e1 := h
  subst e1
  refine ret_ret ?_
  refine fin0 ttok rfl rfl ?_
  exact (wkP_refl _ rfl)

/-- sawmill/span.Len -/
noncomputable def span_Len_g (s : Sp) : Int :=
  (span_limited_g (span_size_g s))
theorem span_Len_w (s : Sp) (r : Int) (h : span_Len_g s = r) : Holds Try.prog 48 [(encSp s)] [] (I r) [] := by
  unfold span_Len_g at h
  refine holds_fn Try.func48 rfl Try.ntmps48 rfl rfl rfl ?_
  refine awp_seq ?_
  refine awp_go hmix ?_
  refine go_run' ttok 2 rfl ?_
  refine go_nil nd ?_
  refine then_norm ?_
  refine awp_seq ?_
  refine awp_go hmix ?_
  refine go_run' ttok 1 rfl ?_
  refine go_call fn65 (span_size_w s _ rfl) rfl rfl rfl rfl rfl rfl rfl ?_
  refine go_call fn64 (span_limited_w (span_size_g s) _ rfl) rfl rfl rfl rfl rfl rfl rfl ?_
  refine go_run' ttok 1 rfl ?_
  refine go_nil nd ?_
  refine then_norm ?_
  refine awp_ret ?_
  have e1 := h
  subst e1
  refine ret_ret ?_
  refine fin0 ttok rfl rfl ?_
  exact (wkP_refl _ rfl)

noncomputable def section_Within_s1 (vr : TRect) (vv : TSection) (vsum1 : Int) (vv1 : Int) : Option ((Int × Int) ⊕ Int) :=
  (bif (decide (vv1 < ((vv.Rows.length : Nat) : Int))) then (Option.bind (getI vv.Rows vv1) (fun e => (letB (section_heights_g (W64 (vv.Low + vv1)) (W64 ((W64 (vv.Low + vv1)) + 1))) (fun hv => (letB (span_Meet_g e vr.X) (fun mv => (letB (span_Meet_g hv vr.Y) (fun mv1 => some (Sum.inl ((W64 (vsum1 + (W64 ((span_Len_g mv) * (span_Len_g mv1))))), (W64 (vv1 + 1)))))))))))) else some (Sum.inr vsum1))
/-- sawmill/section.Within -/
noncomputable def section_Within_g (s : TSection) (vr : TRect) : Option Int :=
  (Option.bind (section_valid_g s) (fun vv => (Option.bind ((loopO (fun q => section_Within_s1 vr vv q.1 q.2) (0, 0)) : Option Int) (fun vsum => some vsum))))
theorem section_Within_w (s : TSection) (vr : TRect) (r : Int) (h : section_Within_g s vr = some r) : Holds Try.prog 50 [(encTSection s), (encTRect vr)] [] (I r) [] := by
  unfold section_Within_g at h
  refine holds_fn Try.func50 rfl Try.ntmps50 rfl rfl rfl ?_
  refine awp_seq ?_
  refine awp_go hmix ?_
  refine go_run' ttok 3 rfl ?_
  refine go_nil nd ?_
  refine then_norm ?_
  refine awp_seq ?_
  refine awp_go hmix ?_
  refine go_run' ttok 1 rfl ?_
  obtain ⟨vv, hv1, h⟩ := of_obind h
  refine go_call fn66 (section_valid_w s vv hv1) rfl rfl rfl rfl rfl rfl rfl ?_
  refine go_run' ttok 1 rfl ?_
  refine go_nil nd ?_
  refine then_norm ?_
  refine awp_seq ?_
  refine awp_go hmix ?_
  refine go_run' ttok 1 rfl ?_
  refine go_nil nd ?_
  refine then_norm ?_
  obtain ⟨y, hx2, h⟩ := of_obind h
  refine awp_seqJ (X := Int) [] [] (fun w => [(5, (I w))]) (fun w => []) (fun w => w = y) rfl rfl ?_ ?_
  · skip
    refine awp_seq ?_
    refine awp_go hmix ?_
    refine go_run' ttok 2 rfl ?_
    refine go_lenT encSp vv.Rows ttok rfl rfl rfl rfl rfl rfl ?_
    refine go_run' ttok 1 rfl ?_
    refine go_nil nd ?_
    refine then_norm ?_
    refine awp_block ?_
    refine awp_loopD (X := (Int × Int)) (Y := Int) [2, 3, 12, 13] [2, 3] (fun q => [(5, (I q.1)), (14, (I q.2))]) (fun q => []) (fun q => section_Within_s1 vr vv q.1 q.2) (0, 0) [(2, some 2), (3, some 3)] hx2 ⟨rfl, rfl, rfl, rfl, rfl, ⟨wkP_id _ rfl, wkP_id _ rfl, trivial⟩, trivial⟩ (fun x vR vz hz4 hk5 => ?_)
    obtain ⟨vsum1, vv1⟩ := x
    change section_Within_s1 vr vv vsum1 vv1 = _ at hz4
    unfold section_Within_s1 at hz4
    refine awp_seq ?_
    refine awp_go hmix ?_
    refine go_run' ttok 1 rfl ?_
    refine go_nil nd ?_
    refine then_norm ?_
    refine awp_seq ?_
    refine awp_cond (b := (decide (vv1 < ((vv.Rows.length : Nat) : Int)))) rfl (fun c6 => ?_) (fun c6 => ?_)
    · replace hz4 := of_bif_t hz4 c6
      refine awp_skip ?_
      refine then_norm ?_
      refine awp_seq ?_
      refine awp_block ?_
      refine awp_seq ?_
      refine awp_go hmix ?_
      refine go_run' ttok 1 rfl ?_
      obtain ⟨e, hv7, hz4⟩ := of_obind hz4
      refine go_indexT encSp vv.Rows vv1 e hv7 ttok rfl rfl rfl rfl rfl rfl rfl rfl rfl ?_
      refine go_run' ttok 4 rfl ?_
      refine go_nil nd ?_
      refine then_norm ?_
      refine awp_seq ?_
      refine awp_go hmix ?_
      refine go_run' ttok 9 rfl ?_
      obtain ⟨hv, hv8, hz4⟩ := of_let hz4
      refine go_call fn67 (section_heights_w (W64 (vv.Low + vv1)) (W64 ((W64 (vv.Low + vv1)) + 1)) hv hv8) rfl rfl rfl rfl rfl rfl rfl ?_
      refine go_run' ttok 2 rfl ?_
      refine go_nil nd ?_
      refine then_norm ?_
      refine awp_go hmix ?_
      refine go_run' ttok 4 rfl ?_
      obtain ⟨mv, hv9, hz4⟩ := of_let hz4
      refine go_call fn49 (span_Meet_w e vr.X mv hv9) rfl rfl rfl rfl rfl rfl rfl ?_
      refine go_call fn48 (span_Len_w mv _ rfl) rfl rfl rfl rfl rfl rfl rfl ?_
      refine go_run' ttok 3 rfl ?_
      obtain ⟨mv1, hv10, hz4⟩ := of_let hz4
      refine go_call fn49 (span_Meet_w hv vr.Y mv1 hv10) rfl rfl rfl rfl rfl rfl rfl ?_
      refine go_call fn48 (span_Len_w mv1 _ rfl) rfl rfl rfl rfl rfl rfl rfl ?_
      refine go_run' ttok 3 rfl ?_
      refine go_nil (fun _ => by kernel_rfl) ?_
      refine block_norm ?_
      refine then_norm ?_
      refine awp_go hmix ?_
      refine go_run' ttok 2 rfl ?_
      refine go_nil nd ?_
      have e11 := of_some hz4
      subst e11
      refine then_norm ⟨rfl, ((W64 (vsum1 + (W64 ((span_Len_g mv) * (span_Len_g mv1))))), (W64 (vv1 + 1))), [(2, some 2), (3, some 3)], ⟨rfl, rfl, rfl, rfl, rfl, ⟨wkP_id _ rfl, wkP_id _ rfl, trivial⟩, trivial⟩, hk5⟩
    · replace hz4 := of_bif_f hz4 c6
      refine awp_exit ?_
      refine then_exit ?_
      obtain ⟨t, hn12, hq⟩ := of_mapr' hz4
      subst hq
      have hq : t = _ := hk5
      subst hq
      refine then_exit ?_
      refine block_here ?_
      have e13 := of_some hn12
      refine then_norm ⟨rfl, vsum1, [], ⟨rfl, rfl, rfl, rfl, rfl, ⟨wkP_id _ rfl, trivial⟩, trivial⟩, e13⟩
  · intro vsum hw3
    subst hw3
    refine awp_seq ?_
    refine awp_go hmix ?_
    refine go_run' ttok 2 rfl ?_
    refine go_nil nd ?_
    refine then_norm ?_
    refine awp_ret ?_
    have e14 := of_some h
    subst e14
    refine ret_ret ?_
    refine fin0 ttok rfl rfl ?_
    exact (wkP_refl _ rfl)
noncomputable def section_Within_cs1 (N : Nat) (vr : TRect) (vv : TSection) (vsum1 : Int) (vv1 : Int) : Option ((Int × Int) ⊕ Int) :=
  (bif (decide (vv1 < ((vv.Rows.length : Nat) : Int))) then (Option.bind (getI vv.Rows vv1) (fun e => (letB (section_heights_g (W64 (vv.Low + vv1)) (W64 ((W64 (vv.Low + vv1)) + 1))) (fun hv => (letB (span_Meet_g e vr.X) (fun mv => (letB (span_Meet_g hv vr.Y) (fun mv1 => some (Sum.inl ((W64 (vsum1 + (W64 ((span_Len_g mv) * (span_Len_g mv1))))), (W64 (vv1 + 1)))))))))))) else some (Sum.inr vsum1))
theorem section_Within_cs1_le (N : Nat) (vr : TRect) (vv : TSection) (vsum1 : Int) (vv1 : Int) : OLe (section_Within_cs1 N vr vv vsum1 vv1) (section_Within_s1 vr vv vsum1 vv1) := by
  unfold section_Within_cs1 section_Within_s1
  repeat' (first | exact ole_rfl | exact section_valid_le _ _ | refine ole_bif ?_ ?_ | refine ole_bind ?_ (fun _ => ?_) | refine ole_let (fun _ => ?_) | refine ole_map ?_ | refine ole_elim (fun _ => ?_) (fun _ => ?_) | refine ole_loop (fun _ => ?_))
noncomputable def section_Within_c (N : Nat) (s : TSection) (vr : TRect) : Option Int :=
  (Option.bind ((section_valid_c N) s) (fun vv => (Option.bind ((iterX N (fun q => section_Within_cs1 N vr vv q.1 q.2) (0, 0)) : Option Int) (fun vsum => some vsum))))
theorem section_Within_le (N : Nat) (s : TSection) (vr : TRect) : OLe (section_Within_c N s vr) (section_Within_g s vr) := by
  unfold section_Within_c section_Within_g
  repeat' (first | exact ole_rfl | exact section_valid_le _ _ | exact section_Within_cs1_le _ _ _ _ _ | refine ole_bif ?_ ?_ | refine ole_bind ?_ (fun _ => ?_) | refine ole_let (fun _ => ?_) | refine ole_map ?_ | refine ole_elim (fun _ => ?_) (fun _ => ?_) | refine ole_loop (fun _ => ?_))

noncomputable def worth_lacks_s1 (l : (List TSlice)) (vr : TRect) (vlist1 : (List Tworth_zone)) (vat : Int) (vv : Int) : Option (((List Tworth_zone) × Int × Int) ⊕ (List Tworth_zone)) :=
  (bif (decide (vv < ((l.length : Nat) : Int))) then (Option.bind (getI l vv) (fun e => (Option.bind (section_Within_g e.Sec vr) (fun wv => (bif ((W64 ((W64 (vr.X.b - vr.X.a)) * (W64 (vr.Y.b - vr.Y.a)))) != 0) then (Option.bind (appO 24 vlist1 ([(⟨(⟨vat, (W64 (vat + e.Len))⟩ : Sp), (W64 (Int.tdiv (W64 ((W64 ((W64 (1000 * (W64 ((W64 ((W64 (vr.X.b - vr.X.a)) * (W64 (vr.Y.b - vr.Y.a)))) - wv)))) + (W64 ((W64 (vr.X.b - vr.X.a)) * (W64 (vr.Y.b - vr.Y.a)))))) - 1)) (W64 ((W64 (vr.X.b - vr.X.a)) * (W64 (vr.Y.b - vr.Y.a))))))⟩ : Tworth_zone)])) (fun l1 => some (Sum.inl (l1, (W64 (vat + e.Len)), (W64 (vv + 1)))))) else none))))) else some (Sum.inr vlist1))
/-- sawmill/worth.lacks -/
noncomputable def worth_lacks_g (l : (List TSlice)) (vr : TRect) : Option (List Tworth_zone) :=
  (Option.bind ((loopO (fun q => worth_lacks_s1 l vr q.1 q.2.1 q.2.2) ([], 0, 0)) : Option (List Tworth_zone)) (fun vlist => some vlist))
theorem worth_lacks_w (l : (List TSlice)) (vr : TRect) (r : (List Tworth_zone)) (h : worth_lacks_g l vr = some r) : Holds Try.prog 36 [((encL encTSlice) l), (encTRect vr)] [] ((encL encTworth_zone) r) [] := by
  unfold worth_lacks_g at h
  refine holds_fn Try.func36 rfl Try.ntmps36 rfl rfl rfl ?_
  refine awp_seq ?_
  refine awp_go hmix ?_
  refine go_run' ttok 2 rfl ?_
  refine go_nil nd ?_
  refine then_norm ?_
  refine awp_seq ?_
  refine awp_go hmix ?_
  refine go_run' ttok 16 rfl ?_
  refine go_nil nd ?_
  refine then_norm ?_
  refine awp_seq ?_
  refine awp_go hmix ?_
  refine go_run' ttok 1 rfl ?_
  refine go_nil nd ?_
  refine then_norm ?_
  refine awp_seq ?_
  refine awp_go hmix ?_
  refine go_run' ttok 1 rfl ?_
  refine go_nil nd ?_
  refine then_norm ?_
  obtain ⟨y, hx1, h⟩ := of_obind h
  refine awp_seqJ (X := (List Tworth_zone)) [] [] (fun w => [(6, (.arr 6 0 w.length))]) (fun w => [(6, some ⟨90, 3, w.map encTworth_zone⟩)]) (fun w => w = y) rfl rfl ?_ ?_
  · skip
    refine awp_seq ?_
    refine awp_go hmix ?_
    refine go_run' ttok 1 rfl ?_
    refine go_lenT encTSlice l ttok rfl rfl rfl rfl rfl rfl ?_
    refine go_run' ttok 1 rfl ?_
    refine go_nil nd ?_
    refine then_norm ?_
    refine awp_block ?_
    refine awp_loopD (X := ((List Tworth_zone) × Int × Int)) (Y := (List Tworth_zone)) [3, 5, 27, 28] [3] (fun q => [(6, (.arr 6 0 q.1.length)), (7, (I q.2.1)), (29, (I q.2.2))]) (fun q => [(6, some ⟨90, 3, q.1.map encTworth_zone⟩)]) (fun q => worth_lacks_s1 l vr q.1 q.2.1 q.2.2) ([], 0, 0) [(6, none), (3, some 3)] hx1 ⟨rfl, rfl, rfl, rfl, rfl, ⟨⟨rfl, rfl, (by first | rfl | simp [setI])⟩, wkP_id _ rfl, wkP_id _ rfl, trivial⟩, ⟨rfl, trivial⟩⟩ (fun x vR vz hz3 hk4 => ?_)
    obtain ⟨vlist1, vat, vv⟩ := x
    change worth_lacks_s1 l vr vlist1 vat vv = _ at hz3
    unfold worth_lacks_s1 at hz3
    refine awp_seq ?_
    refine awp_go hmix ?_
    refine go_run' ttok 1 rfl ?_
    refine go_nil nd ?_
    refine then_norm ?_
    refine awp_seq ?_
    refine awp_cond (b := (decide (vv < ((l.length : Nat) : Int)))) rfl (fun c5 => ?_) (fun c5 => ?_)
    · replace hz3 := of_bif_t hz3 c5
      refine awp_skip ?_
      refine then_norm ?_
      refine awp_seq ?_
      refine awp_block ?_
      refine awp_seq ?_
      refine awp_go hmix ?_
      obtain ⟨e, hv6, hz3⟩ := of_obind hz3
      refine go_indexT encTSlice l vv e hv6 ttok rfl rfl rfl rfl rfl rfl rfl rfl rfl ?_
      refine go_run' ttok 3 rfl ?_
      refine go_nil nd ?_
      refine then_norm ?_
      refine awp_seq ?_
      refine awp_go hmix ?_
      refine go_run' ttok 4 rfl ?_
      obtain ⟨wv, hv7, hz3⟩ := of_obind hz3
      refine go_call fn50 (section_Within_w e.Sec vr wv hv7) rfl rfl rfl rfl rfl rfl rfl ?_
      refine go_run' ttok 2 rfl ?_
      refine go_nil nd ?_
      refine then_norm ?_
      refine awp_seq ?_
      refine awp_go hmix ?_
      refine go_run' ttok 8 rfl ?_
      refine go_nil nd ?_
      refine then_norm ?_
      refine awp_seq ?_
      refine awp_go hmix ?_
      refine go_run' ttok 8 rfl ?_
      obtain ⟨hd8, hz3⟩ := of_grd hz3
      refine go_quoT (W64 ((W64 ((W64 (1000 * (W64 ((W64 ((W64 (vr.X.b - vr.X.a)) * (W64 (vr.Y.b - vr.Y.a)))) - wv)))) + (W64 ((W64 (vr.X.b - vr.X.a)) * (W64 (vr.Y.b - vr.Y.a)))))) - 1)) (W64 ((W64 (vr.X.b - vr.X.a)) * (W64 (vr.Y.b - vr.Y.a)))) hd8 rfl rfl rfl rfl rfl ?_
      refine go_run' ttok 2 rfl ?_
      obtain ⟨l1, hv9, hz3⟩ := of_obind hz3
      refine go_appT encTworth_zone vlist1 ([(⟨(⟨vat, (W64 (vat + e.Len))⟩ : Sp), (W64 (Int.tdiv (W64 ((W64 ((W64 (1000 * (W64 ((W64 ((W64 (vr.X.b - vr.X.a)) * (W64 (vr.Y.b - vr.Y.a)))) - wv)))) + (W64 ((W64 (vr.X.b - vr.X.a)) * (W64 (vr.Y.b - vr.Y.a)))))) - 1)) (W64 ((W64 (vr.X.b - vr.X.a)) * (W64 (vr.Y.b - vr.Y.a))))))⟩ : Tworth_zone)]) l1 hv9 (fun _ => rfl) (by first | rfl | simp [setI]) (by first | rfl | simp [setI]) ttok rfl rfl rfl rfl rfl rfl rfl rfl rfl rfl rfl rfl rfl rfl rfl rfl rfl ?_
      refine go_run' ttok 1 rfl ?_
      refine go_nil (fun _ => by kernel_rfl) ?_
      refine then_norm ?_
      refine awp_go hmix ?_
      refine go_run' ttok 3 rfl ?_
      refine go_nil nd ?_
      refine block_norm ?_
      refine then_norm ?_
      refine awp_go hmix ?_
      refine go_run' ttok 2 rfl ?_
      refine go_nil nd ?_
      have e10 := of_some hz3
      subst e10
      refine then_norm ⟨rfl, (l1, (W64 (vat + e.Len)), (W64 (vv + 1))), [(6, some 56), (3, some 3)], ⟨rfl, rfl, rfl, rfl, rfl, ⟨⟨rfl, rfl, (by first | rfl | simp [setI])⟩, wkP_id _ rfl, wkP_id _ rfl, trivial⟩, ⟨⟨_, rfl, rfl, rfl, wkX_map (enc := encTworth_zone) l1 (fun _ => rfl)⟩, trivial⟩⟩, hk4⟩
    · replace hz3 := of_bif_f hz3 c5
      refine awp_exit ?_
      refine then_exit ?_
      obtain ⟨t, hn11, hq⟩ := of_mapr' hz3
      subst hq
      have hq : t = _ := hk4
      subst hq
      refine then_exit ?_
      refine block_here ?_
      have e12 := of_some hn11
      refine then_norm ⟨rfl, vlist1, [(6, some 6)], ⟨rfl, rfl, rfl, rfl, rfl, ⟨⟨rfl, rfl, (by first | rfl | simp [setI])⟩, trivial⟩, ⟨⟨_, rfl, rfl, rfl, wkX_map (enc := encTworth_zone) vlist1 (fun _ => rfl)⟩, trivial⟩⟩, e12⟩
  · intro vlist hw2
    subst hw2
    refine awp_seq ?_
    refine awp_go hmix ?_
    refine go_run' ttok 2 rfl ?_
    refine go_nil nd ?_
    refine then_norm ?_
    refine awp_freezeM [] [] [(6, some ⟨90, 3, vlist.map encTworth_zone⟩)] [] [(4, (encL encTworth_zone vlist))] [] rfl rfl rfl rfl rfl ⟨rfl, by decide, trivial⟩ ⟨(wkP_lend rfl (by first | rfl | simp [setI]) (fun _ => rfl)), trivial⟩ trivial ?_
    refine awp_ret ?_
    have e13 := of_some h
    subst e13
    refine ret_ret ?_
    refine fin0 ttok rfl rfl ?_
    exact (wkP_refl _ rfl)
noncomputable def worth_lacks_cs1 (N : Nat) (l : (List TSlice)) (vr : TRect) (vlist1 : (List Tworth_zone)) (vat : Int) (vv : Int) : Option (((List Tworth_zone) × Int × Int) ⊕ (List Tworth_zone)) :=
  (bif (decide (vv < ((l.length : Nat) : Int))) then (Option.bind (getI l vv) (fun e => (Option.bind ((section_Within_c N) e.Sec vr) (fun wv => (bif ((W64 ((W64 (vr.X.b - vr.X.a)) * (W64 (vr.Y.b - vr.Y.a)))) != 0) then (Option.bind (appO 24 vlist1 ([(⟨(⟨vat, (W64 (vat + e.Len))⟩ : Sp), (W64 (Int.tdiv (W64 ((W64 ((W64 (1000 * (W64 ((W64 ((W64 (vr.X.b - vr.X.a)) * (W64 (vr.Y.b - vr.Y.a)))) - wv)))) + (W64 ((W64 (vr.X.b - vr.X.a)) * (W64 (vr.Y.b - vr.Y.a)))))) - 1)) (W64 ((W64 (vr.X.b - vr.X.a)) * (W64 (vr.Y.b - vr.Y.a))))))⟩ : Tworth_zone)])) (fun l1 => some (Sum.inl (l1, (W64 (vat + e.Len)), (W64 (vv + 1)))))) else none))))) else some (Sum.inr vlist1))
theorem worth_lacks_cs1_le (N : Nat) (l : (List TSlice)) (vr : TRect) (vlist1 : (List Tworth_zone)) (vat : Int) (vv : Int) : OLe (worth_lacks_cs1 N l vr vlist1 vat vv) (worth_lacks_s1 l vr vlist1 vat vv) := by
  unfold worth_lacks_cs1 worth_lacks_s1
  repeat' (first | exact ole_rfl | exact section_Within_le _ _ _ | refine ole_bif ?_ ?_ | refine ole_bind ?_ (fun _ => ?_) | refine ole_let (fun _ => ?_) | refine ole_map ?_ | refine ole_elim (fun _ => ?_) (fun _ => ?_) | refine ole_loop (fun _ => ?_))
noncomputable def worth_lacks_c (N : Nat) (l : (List TSlice)) (vr : TRect) : Option (List Tworth_zone) :=
  (Option.bind ((iterX N (fun q => worth_lacks_cs1 N l vr q.1 q.2.1 q.2.2) ([], 0, 0)) : Option (List Tworth_zone)) (fun vlist => some vlist))
theorem worth_lacks_le (N : Nat) (l : (List TSlice)) (vr : TRect) : OLe (worth_lacks_c N l vr) (worth_lacks_g l vr) := by
  unfold worth_lacks_c worth_lacks_g
  repeat' (first | exact ole_rfl | exact section_Within_le _ _ _ | exact worth_lacks_cs1_le _ _ _ _ _ _ | refine ole_bif ?_ ?_ | refine ole_bind ?_ (fun _ => ?_) | refine ole_let (fun _ => ?_) | refine ole_map ?_ | refine ole_elim (fun _ => ?_) (fun _ => ?_) | refine ole_loop (fun _ => ?_))

/-- (sawmill/worth.view).box -/
noncomputable def worth_view__box_g (vv : Tworth_view) (vz : Sp) : Bx :=
  (⟨vv.rect.X, vv.rect.Y, vz⟩ : Bx)
theorem worth_view__box_w (vv : Tworth_view) (vz : Sp) (r : Bx) (h : worth_view__box_g vv vz = r) : Holds Try.prog 75 [(encTworth_view vv), (encSp vz)] [] (encBx r) [] := by
  unfold worth_view__box_g at h
  refine holds_fn Try.func75 rfl Try.ntmps75 rfl rfl rfl ?_
  refine awp_seq ?_
  refine awp_go hmix ?_
  refine go_run' ttok 3 rfl ?_
  refine go_nil nd ?_
  refine then_norm ?_
  refine awp_seq ?_
  refine awp_go hmix ?_
  refine go_run' ttok 9 rfl ?_
  refine go_nil nd ?_
  refine then_norm ?_
  refine awp_ret ?_
  have e1 := h
  subst e1
  refine ret_ret ?_
  refine fin0 ttok rfl rfl ?_
  exact (wkP_refl _ rfl)

/-- sawmill/defect.meet -/
noncomputable def defect_meet_g (a : Bx) (b : Bx) : (Bx × Bool) :=
  (letB (span_Meet_g a.x b.x) (fun mv => (letB (span_Meet_g a.y b.y) (fun mv1 => (letB (span_Meet_g a.z b.z) (fun mv2 => (bif (defect_isEmpty_g mv) then ((⟨(⟨0, 0⟩ : Sp), (⟨0, 0⟩ : Sp), (⟨0, 0⟩ : Sp)⟩ : Bx), false) else (bif (defect_isEmpty_g mv1) then ((⟨(⟨0, 0⟩ : Sp), (⟨0, 0⟩ : Sp), (⟨0, 0⟩ : Sp)⟩ : Bx), false) else (bif (defect_isEmpty_g mv2) then ((⟨(⟨0, 0⟩ : Sp), (⟨0, 0⟩ : Sp), (⟨0, 0⟩ : Sp)⟩ : Bx), false) else ((⟨mv, mv1, mv2⟩ : Bx), true))))))))))
theorem defect_meet_w (a : Bx) (b : Bx) (r : (Bx × Bool)) (h : defect_meet_g a b = r) : Holds Try.prog 91 [(encBx a), (encBx b)] [] (.tup [(encBx r.1), (B r.2)]) [] := by
  unfold defect_meet_g at h
  refine holds_fn Try.func91 rfl Try.ntmps91 rfl rfl rfl ?_
  refine awp_seq ?_
  refine awp_go hmix ?_
  refine go_run' ttok 4 rfl ?_
  refine go_nil nd ?_
  refine then_norm ?_
  refine awp_seq ?_
  refine awp_go hmix ?_
  refine go_run' ttok 4 rfl ?_
  obtain ⟨mv, hv1, h⟩ := of_let h
  refine go_call fn49 (span_Meet_w a.x b.x mv hv1) rfl rfl rfl rfl rfl rfl rfl ?_
  refine go_run' ttok 4 rfl ?_
  obtain ⟨mv1, hv2, h⟩ := of_let h
  refine go_call fn49 (span_Meet_w a.y b.y mv1 hv2) rfl rfl rfl rfl rfl rfl rfl ?_
  refine go_run' ttok 4 rfl ?_
  obtain ⟨mv2, hv3, h⟩ := of_let h
  refine go_call fn49 (span_Meet_w a.z b.z mv2 hv3) rfl rfl rfl rfl rfl rfl rfl ?_
  refine go_run' ttok 3 rfl ?_
  refine go_nil (fun _ => by kernel_rfl) ?_
  refine then_norm ?_
  refine awp_seq ?_
  refine awp_seq ?_
  refine awp_go hmix ?_
  refine go_run' ttok 2 rfl ?_
  refine go_call fn96 (defect_isEmpty_w mv _ rfl) rfl rfl rfl rfl rfl rfl rfl ?_
  refine go_run' ttok 1 rfl ?_
  refine go_gcase rfl rfl rfl (fun g4 => ?_) (fun g4 => ?_)
  · rw [g4]
    replace h := of_bif_t h g4
    refine go_run' ttok 9 rfl ?_
    refine go_nil nd ?_
    refine then_norm ?_
    refine awp_cond rfl (fun tt0 => ?_) (fun h => by cases h)
    clear tt0
    refine awp_seq ?_
    refine awp_go hmix ?_
    refine go_run' ttok 3 rfl ?_
    refine go_nil nd ?_
    refine then_norm ?_
    refine awp_ret ?_
    refine then_ret ?_
    have e5 := h
    subst e5
    refine ret_ret ?_
    refine fin0 ttok rfl rfl ?_
    exact wkP_refl _ rfl
  · rw [g4]
    replace h := of_bif_f h g4
    refine go_run' ttok 2 rfl ?_
    refine go_call fn96 (defect_isEmpty_w mv1 _ rfl) rfl rfl rfl rfl rfl rfl rfl ?_
    refine go_run' ttok 2 rfl ?_
    refine go_gcase rfl rfl rfl (fun g6 => ?_) (fun g6 => ?_)
    · rw [g6]
      replace h := of_bif_t h g6
      refine go_run' ttok 4 rfl ?_
      refine go_nil nd ?_
      refine then_norm ?_
      refine awp_cond rfl (fun tt0 => ?_) (fun h => by cases h)
      clear tt0
      refine awp_seq ?_
      refine awp_go hmix ?_
      refine go_run' ttok 3 rfl ?_
      refine go_nil nd ?_
      refine then_norm ?_
      refine awp_ret ?_
      refine then_ret ?_
      have e7 := h
      subst e7
      refine ret_ret ?_
      refine fin0 ttok rfl rfl ?_
      exact wkP_refl _ rfl
    · rw [g6]
      replace h := of_bif_f h g6
      refine go_run' ttok 2 rfl ?_
      refine go_call fn96 (defect_isEmpty_w mv2 _ rfl) rfl rfl rfl rfl rfl rfl rfl ?_
      refine go_run' ttok 1 rfl ?_
      refine go_nil nd ?_
      refine then_norm ?_
      refine awp_cond (b := (defect_isEmpty_g mv2)) rfl (fun c8 => ?_) (fun c8 => ?_)
      · replace h := of_bif_t h c8
        refine awp_seq ?_
        refine awp_go hmix ?_
        refine go_run' ttok 3 rfl ?_
        refine go_nil nd ?_
        refine then_norm ?_
        refine awp_ret ?_
        refine then_ret ?_
        have e9 := h
        subst e9
        refine ret_ret ?_
        refine fin0 ttok rfl rfl ?_
        exact wkP_refl _ rfl
      · replace h := of_bif_f h c8
        refine awp_skip ?_
        refine then_norm ?_
        refine awp_seq ?_
        refine awp_go hmix ?_
        refine go_run' ttok 3 rfl ?_
        refine go_nil nd ?_
        refine then_norm ?_
        refine awp_ret ?_
        have e10 := h
        subst e10
        refine ret_ret ?_
        refine fin0 ttok rfl rfl ?_
        exact wkP_refl _ rfl

/-- sawmill/defect.Touches -/
noncomputable def defect_Touches_g (d : Df) (b : Bx) : Bool :=
  (letB (defect_meet_g d.b b) (fun mv => mv.2))
theorem defect_Touches_w (d : Df) (b : Bx) (r : Bool) (h : defect_Touches_g d b = r) : Holds Try.prog 76 [(encDf d), (encBx b)] [] (B r) [] := by
  unfold defect_Touches_g at h
  refine holds_fn Try.func76 rfl Try.ntmps76 rfl rfl rfl ?_
  refine awp_seq ?_
  refine awp_go hmix ?_
  refine go_run' ttok 3 rfl ?_
  refine go_nil nd ?_
  refine then_norm ?_
  refine awp_seq ?_
  refine awp_go hmix ?_
  refine go_run' ttok 3 rfl ?_
  obtain ⟨mv, hv1, h⟩ := of_let h
  refine go_call fn91 (defect_meet_w d.b b mv hv1) rfl rfl rfl rfl rfl rfl rfl ?_
  refine go_run' ttok 6 rfl ?_
  refine go_nil nd ?_
  refine then_norm ?_
  refine awp_seq ?_
  refine awp_go hmix ?_
  refine go_run' ttok 2 rfl ?_
  refine go_nil nd ?_
  refine then_norm ?_
  refine awp_ret ?_
  have e2 := h
  subst e2
  refine ret_ret ?_
  refine fin0 ttok rfl rfl ?_
  exact (wkP_refl _ rfl)

noncomputable def worth_look_s1 (d : (List Df)) (bv : Bx) (vv14 : Int) (vv15 : ByteArray) (vv16 : Int) (vv17 : Int) (vv18 : Int) (vv19 : Int) (vv20 : (List Int)) (vv21 : (List Int)) (vv22 : Int) (vv23 : Int) (vv24 : Int) (vv25 : Int) (vv26 : Int) (vv27 : (List Tworth_zone)) (vv28 : (List Df)) : Option ((Int × ByteArray × Int × Int × Int × Int × (List Int) × (List Int) × Int × Int × Int × Int × Int × (List Tworth_zone) × (List Df)) ⊕ (ByteArray × Int × Int × Int × Int × (List Int) × (List Int) × Int × Int × Int × Int × Int × (List Tworth_zone) × (List Df))) :=
  (bif (decide (vv14 < ((d.length : Nat) : Int))) then (Option.bind (getI d vv14) (fun e => (bif (defect_Touches_g e bv) then (Option.bind (appO 56 vv28 ([e])) (fun l1 => some (Sum.inl ((W64 (vv14 + 1)), vv15, vv16, vv17, vv18, vv19, vv20, vv21, vv22, vv23, vv24, vv25, vv26, vv27, l1)))) else some (Sum.inl ((W64 (vv14 + 1)), vv15, vv16, vv17, vv18, vv19, vv20, vv21, vv22, vv23, vv24, vv25, vv26, vv27, vv28))))) else some (Sum.inr (vv15, vv16, vv17, vv18, vv19, vv20, vv21, vv22, vv23, vv24, vv25, vv26, vv27, vv28)))
/-- sawmill/worth.look -/
noncomputable def worth_look_g (l : (List TSlice)) (d : (List Df)) (p : TProduct) (vr : TRect) : Option (Tworth_view × Bool) :=
  (Option.bind (solid_Check_g l) (fun cv => (bif (cv != 0) then some ((⟨(⟨(⟨#[]⟩ : ByteArray), 0, 0, 0, 0, [], []⟩ : TProduct), (⟨(⟨0, 0⟩ : Sp), (⟨0, 0⟩ : Sp)⟩ : TRect), 0, [], []⟩ : Tworth_view), false) else (Option.bind (defect_Check_g d) (fun cv1 => (bif (cv1 != 0) then some ((⟨(⟨(⟨#[]⟩ : ByteArray), 0, 0, 0, 0, [], []⟩ : TProduct), (⟨(⟨0, 0⟩ : Sp), (⟨0, 0⟩ : Sp)⟩ : TRect), 0, [], []⟩ : Tworth_view), false) else (Option.bind (product_Check_g ([p])) (fun cv2 => (bif (cv2 != 0) then some ((⟨(⟨(⟨#[]⟩ : ByteArray), 0, 0, 0, 0, [], []⟩ : TProduct), (⟨(⟨0, 0⟩ : Sp), (⟨0, 0⟩ : Sp)⟩ : TRect), 0, [], []⟩ : Tworth_view), false) else (Option.bind (worth_isRect_g vr) (fun iv => (bif (!iv) then some ((⟨(⟨(⟨#[]⟩ : ByteArray), 0, 0, 0, 0, [], []⟩ : TProduct), (⟨(⟨0, 0⟩ : Sp), (⟨0, 0⟩ : Sp)⟩ : TRect), 0, [], []⟩ : Tworth_view), false) else (letB (product_Green_g p) (fun gv => (Option.bind ((bif (!((W64 (vr.X.b - vr.X.a)) == gv.1 && ((W64 (vr.Y.b - vr.Y.a)) == gv.2 && true))) then (bif (!((W64 (vr.X.b - vr.X.a)) == gv.2 && ((W64 (vr.Y.b - vr.Y.a)) == gv.1 && true))) then some (Sum.inl ((⟨(⟨(⟨#[]⟩ : ByteArray), 0, 0, 0, 0, [], []⟩ : TProduct), (⟨(⟨0, 0⟩ : Sp), (⟨0, 0⟩ : Sp)⟩ : TRect), 0, [], []⟩ : Tworth_view), false)) else some (Sum.inr ())) else some (Sum.inr ())) : Option ((Tworth_view × Bool) ⊕ Unit)) (Sum.elim (fun q => some q) (fun _ => (Option.bind (solid_Length_g l) (fun lv => (Option.bind (worth_lacks_g l vr) (fun lv1 => (letB (worth_view__box_g (⟨p, vr, lv, lv1, []⟩ : Tworth_view) (⟨0, lv⟩ : Sp)) (fun bv => (Option.bind ((loopO (fun q => worth_look_s1 d bv q.1 q.2.1 q.2.2.1 q.2.2.2.1 q.2.2.2.2.1 q.2.2.2.2.2.1 q.2.2.2.2.2.2.1 q.2.2.2.2.2.2.2.1 q.2.2.2.2.2.2.2.2.1 q.2.2.2.2.2.2.2.2.2.1 q.2.2.2.2.2.2.2.2.2.2.1 q.2.2.2.2.2.2.2.2.2.2.2.1 q.2.2.2.2.2.2.2.2.2.2.2.2.1 q.2.2.2.2.2.2.2.2.2.2.2.2.2.1 q.2.2.2.2.2.2.2.2.2.2.2.2.2.2) (0, p.Name, p.Thick, p.Width, p.Allow, p.Wane, p.Lengths, p.Prices, vr.X.a, vr.X.b, vr.Y.a, vr.Y.b, lv, lv1, [])) : Option (ByteArray × Int × Int × Int × Int × (List Int) × (List Int) × Int × Int × Int × Int × Int × (List Tworth_zone) × (List Df))) (fun w2 => some ((⟨(⟨w2.1, w2.2.1, w2.2.2.1, w2.2.2.2.1, w2.2.2.2.2.1, w2.2.2.2.2.2.1, w2.2.2.2.2.2.2.1⟩ : TProduct), (⟨(⟨w2.2.2.2.2.2.2.2.1, w2.2.2.2.2.2.2.2.2.1⟩ : Sp), (⟨w2.2.2.2.2.2.2.2.2.2.1, w2.2.2.2.2.2.2.2.2.2.2.1⟩ : Sp)⟩ : TRect), w2.2.2.2.2.2.2.2.2.2.2.2.1, w2.2.2.2.2.2.2.2.2.2.2.2.2.1, w2.2.2.2.2.2.2.2.2.2.2.2.2.2⟩ : Tworth_view), true))))))))))))))))))))))))))
theorem worth_look_w (l : (List TSlice)) (d : (List Df)) (p : TProduct) (vr : TRect) (r : (Tworth_view × Bool)) (h : worth_look_g l d p vr = some r) : Holds Try.prog 54 [((encL encTSlice) l), ((encL encDf) d), (encTProduct p), (encTRect vr)] [] (.tup [(encTworth_view r.1), (B r.2)]) [] := by
  unfold worth_look_g at h
  refine holds_fn Try.func54 rfl Try.ntmps54 rfl rfl rfl ?_
  refine awp_seq ?_
  refine awp_go hmix ?_
  refine go_run' ttok 4 rfl ?_
  refine go_nil nd ?_
  refine then_norm ?_
  refine awp_seq ?_
  refine awp_seq ?_
  refine awp_go hmix ?_
  refine go_run' ttok 1 rfl ?_
  obtain ⟨cv, hv1, h⟩ := of_obind h
  refine go_call fn25 (solid_Check_w l cv hv1) rfl rfl rfl rfl rfl rfl rfl ?_
  refine go_run' ttok 2 rfl ?_
  refine go_gcase rfl rfl rfl (fun g2 => ?_) (fun g2 => ?_)
  · rw [g2]
    replace h := of_bif_t h g2
    refine go_run' ttok 15 rfl ?_
    refine go_nil nd ?_
    refine then_norm ?_
    refine awp_cond rfl (fun tt0 => ?_) (fun h => by cases h)
    clear tt0
    refine awp_seq ?_
    refine awp_go hmix ?_
    refine go_run' ttok 3 rfl ?_
    refine go_nil nd ?_
    refine then_norm ?_
    refine awp_ret ?_
    refine then_ret ?_
    have e3 := of_some h
    subst e3
    refine ret_ret ?_
    refine fin0 ttok rfl rfl ?_
    exact ⟨⟨(wkP_refl _ rfl), (wkP_refl _ rfl), (wkP_refl _ rfl), (wkP_refl _ rfl), (wkP_refl _ rfl), wkP_nilm, wkP_nilm, (wkP_refl _ rfl), (wkP_refl _ rfl), (wkP_refl _ rfl), (wkP_refl _ rfl), (wkP_refl _ rfl), wkP_nilm, wkP_nilm, trivial⟩, (wkP_refl _ rfl), trivial⟩
  · rw [g2]
    replace h := of_bif_f h g2
    refine go_run' ttok 1 rfl ?_
    obtain ⟨cv1, hv4, h⟩ := of_obind h
    refine go_call fn72 (defect_Check_w d cv1 hv4) rfl rfl rfl rfl rfl rfl rfl ?_
    refine go_run' ttok 3 rfl ?_
    refine go_gcase rfl rfl rfl (fun g5 => ?_) (fun g5 => ?_)
    · rw [g5]
      replace h := of_bif_t h g5
      refine go_run' ttok 10 rfl ?_
      refine go_nil nd ?_
      refine then_norm ?_
      refine awp_cond rfl (fun tt0 => ?_) (fun h => by cases h)
      clear tt0
      refine awp_seq ?_
      refine awp_go hmix ?_
      refine go_run' ttok 3 rfl ?_
      refine go_nil nd ?_
      refine then_norm ?_
      refine awp_ret ?_
      refine then_ret ?_
      have e6 := of_some h
      subst e6
      refine ret_ret ?_
      refine fin0 ttok rfl rfl ?_
      exact ⟨⟨(wkP_refl _ rfl), (wkP_refl _ rfl), (wkP_refl _ rfl), (wkP_refl _ rfl), (wkP_refl _ rfl), wkP_nilm, wkP_nilm, (wkP_refl _ rfl), (wkP_refl _ rfl), (wkP_refl _ rfl), (wkP_refl _ rfl), (wkP_refl _ rfl), wkP_nilm, wkP_nilm, trivial⟩, (wkP_refl _ rfl), trivial⟩
    · rw [g5]
      replace h := of_bif_f h g5
      refine go_run' ttok 2 rfl ?_
      obtain ⟨cv2, hv7, h⟩ := of_obind h
      refine go_callL (L := [(27, some ⟨39, 7, ([p]).map encTProduct⟩)]) fn73 (product_Check_w ([p]) cv2 hv7) rfl rfl rfl ⟨rfl, List.not_mem_nil, trivial⟩ ⟨(wkP_lend rfl (by first | rfl | simp [setI]) (fun _ => rfl)), trivial⟩ rfl rfl (fun _ => rfl) rfl ?_
      refine go_run' ttok 3 rfl ?_
      refine go_gcase rfl rfl rfl (fun g8 => ?_) (fun g8 => ?_)
      · rw [g8]
        replace h := of_bif_t h g8
        refine go_run' ttok 4 rfl ?_
        refine go_nil nd ?_
        refine then_norm ?_
        refine awp_cond rfl (fun tt0 => ?_) (fun h => by cases h)
        clear tt0
        refine awp_seq ?_
        refine awp_go hmix ?_
        refine go_run' ttok 3 rfl ?_
        refine go_nil nd ?_
        refine then_norm ?_
        refine awp_ret ?_
        refine then_ret ?_
        have e9 := of_some h
        subst e9
        refine ret_ret ?_
        refine fin0 ttok rfl rfl ?_
        exact ⟨⟨(wkP_refl _ rfl), (wkP_refl _ rfl), (wkP_refl _ rfl), (wkP_refl _ rfl), (wkP_refl _ rfl), wkP_nilm, wkP_nilm, (wkP_refl _ rfl), (wkP_refl _ rfl), (wkP_refl _ rfl), (wkP_refl _ rfl), (wkP_refl _ rfl), wkP_nilm, wkP_nilm, trivial⟩, (wkP_refl _ rfl), trivial⟩
      · rw [g8]
        replace h := of_bif_f h g8
        refine go_run' ttok 1 rfl ?_
        obtain ⟨iv, hv10, h⟩ := of_obind h
        refine go_call fn33 (worth_isRect_w vr iv hv10) rfl rfl rfl rfl rfl rfl rfl ?_
        refine go_run' ttok 2 rfl ?_
        refine go_nil nd ?_
        refine then_norm ?_
        refine awp_cond (b := (!iv)) rfl (fun c11 => ?_) (fun c11 => ?_)
        · replace h := of_bif_t h c11
          refine awp_seq ?_
          refine awp_go hmix ?_
          refine go_run' ttok 3 rfl ?_
          refine go_nil nd ?_
          refine then_norm ?_
          refine awp_ret ?_
          refine then_ret ?_
          have e12 := of_some h
          subst e12
          refine ret_ret ?_
          refine fin0 ttok rfl rfl ?_
          exact ⟨⟨(wkP_refl _ rfl), (wkP_refl _ rfl), (wkP_refl _ rfl), (wkP_refl _ rfl), (wkP_refl _ rfl), wkP_nilm, wkP_nilm, (wkP_refl _ rfl), (wkP_refl _ rfl), (wkP_refl _ rfl), (wkP_refl _ rfl), (wkP_refl _ rfl), wkP_nilm, wkP_nilm, trivial⟩, (wkP_refl _ rfl), trivial⟩
        · replace h := of_bif_f h c11
          refine awp_skip ?_
          refine then_norm ?_
          refine awp_seq ?_
          refine awp_go hmix ?_
          refine go_run' ttok 1 rfl ?_
          obtain ⟨gv, hv13, h⟩ := of_let h
          refine go_call fn74 (product_Green_w p gv hv13) rfl rfl rfl rfl rfl rfl rfl ?_
          refine go_run' ttok 5 rfl ?_
          refine go_nil nd ?_
          refine then_norm ?_
          refine awp_seq ?_
          refine awp_go hmix ?_
          refine go_run' ttok 17 rfl ?_
          refine go_nil nd ?_
          refine then_norm ?_
          obtain ⟨y, hx14, h⟩ := of_obind h
          refine awp_seqJ (X := Unit) [0, 1, 6, 7, 8] [6, 7, 8] (fun _ => []) (fun _ => []) (fun w => Sum.inr w = y) rfl rfl ?_ ?_
          · skip
            refine awp_seq ?_
            refine awp_go hmix ?_
            refine go_run' ttok 4 rfl ?_
            refine go_step rfl (as_neArr2 Try.underlying112 ty3_ok rfl rfl (by kernel_rfl) rfl rfl rfl) rfl rfl rfl ?_
            refine go_run' ttok 1 rfl ?_
            refine go_gcase rfl rfl rfl (fun g16 => ?_) (fun g16 => ?_)
            · rw [g16]
              replace hx14 := of_bif_t hx14 g16
              refine go_run' ttok 4 rfl ?_
              refine go_step rfl (as_neArr2 Try.underlying112 ty3_ok rfl rfl (by kernel_rfl) rfl rfl rfl) rfl rfl rfl ?_
              refine go_run' ttok 1 rfl ?_
              refine go_nil nd ?_
              refine then_norm ?_
              refine awp_cond (b := (!((W64 (vr.X.b - vr.X.a)) == gv.2 && ((W64 (vr.Y.b - vr.Y.a)) == gv.1 && true)))) rfl (fun c17 => ?_) (fun c17 => ?_)
              · replace hx14 := of_bif_t hx14 c17
                refine awp_seq ?_
                refine awp_go hmix ?_
                refine go_run' ttok 3 rfl ?_
                refine go_nil nd ?_
                refine then_norm ?_
                refine awp_ret ?_
                obtain ⟨t, hn18, hq⟩ := of_mapl' hx14
                subst hq
                have hq := of_inl h
                replace hq := of_some hq
                subst hq
                refine then_ret ?_
                have e19 := of_some hn18
                subst e19
                refine ret_ret ?_
                refine fin0 ttok rfl rfl ?_
                exact ⟨⟨(wkP_refl _ rfl), (wkP_refl _ rfl), (wkP_refl _ rfl), (wkP_refl _ rfl), (wkP_refl _ rfl), wkP_nilm, wkP_nilm, (wkP_refl _ rfl), (wkP_refl _ rfl), (wkP_refl _ rfl), (wkP_refl _ rfl), (wkP_refl _ rfl), wkP_nilm, wkP_nilm, trivial⟩, (wkP_refl _ rfl), trivial⟩
              · replace hx14 := of_bif_f hx14 c17
                refine awp_skip ?_
                have e20 := of_some hx14
                refine then_norm ⟨rfl, (), [(6, some 6), (7, some 7), (8, some 8)], ⟨rfl, rfl, rfl, rfl, rfl, trivial, trivial⟩, e20⟩
            · rw [g16]
              replace hx14 := of_bif_f hx14 g16
              refine go_run' ttok 6 rfl ?_
              refine go_nil nd ?_
              refine then_norm ?_
              refine awp_cond rfl (fun h => by cases h) (fun tt0 => ?_)
              clear tt0
              refine awp_skip ?_
              have e21 := of_some hx14
              refine then_norm ⟨rfl, (), [(6, some 6), (7, some 7), (8, some 8)], ⟨rfl, rfl, rfl, rfl, rfl, trivial, trivial⟩, e21⟩
          · intro w hw15
            subst hw15
            replace h := of_inr h
            refine awp_seq ?_
            refine awp_go hmix ?_
            refine go_run' ttok 3 rfl ?_
            obtain ⟨lv, hv22, h⟩ := of_obind h
            refine go_call fn27 (solid_Length_w l lv hv22) rfl rfl rfl rfl rfl rfl rfl ?_
            refine go_run' ttok 2 rfl ?_
            obtain ⟨lv1, hv23, h⟩ := of_obind h
            refine go_call fn36 (worth_lacks_w l vr lv1 hv23) rfl rfl rfl rfl rfl rfl rfl ?_
            refine go_run' ttok 3 rfl ?_
            refine go_nil (fun _ => by kernel_rfl) ?_
            refine then_norm ?_
            refine awp_seq ?_
            refine awp_go hmix ?_
            refine go_run' ttok 4 rfl ?_
            obtain ⟨bv, hv24, h⟩ := of_let h
            refine go_callL (L := []) fn75 (worth_view__box_w (⟨p, vr, lv, lv1, []⟩ : Tworth_view) (⟨0, lv⟩ : Sp) bv hv24) rfl rfl rfl trivial ⟨⟨(wkP_refl _ rfl), (wkP_refl _ rfl), (wkP_refl _ rfl), (wkP_refl _ rfl), (wkP_refl _ rfl), (wkP_refl _ rfl), (wkP_refl _ rfl), (wkP_refl _ rfl), (wkP_refl _ rfl), (wkP_refl _ rfl), (wkP_refl _ rfl), (wkP_refl _ rfl), (wkP_refl _ rfl), wkP_nilm, trivial⟩, (wkP_refl _ rfl), trivial⟩ rfl rfl (fun h => absurd rfl h) rfl ?_
            refine go_run' ttok 2 rfl ?_
            refine go_nil nd ?_
            refine then_norm ?_
            obtain ⟨y1, hx25, h⟩ := of_obind h
            refine awp_seqJ (X := (ByteArray × Int × Int × Int × Int × (List Int) × (List Int) × Int × Int × Int × Int × Int × (List Tworth_zone) × (List Df))) [8, 13] [8] (fun w1 => []) (fun w1 => [(990, some ⟨61, 7, w1.2.2.2.2.2.2.2.2.2.2.2.2.2.map encDf⟩), (13, some ⟨94, 14, [(.agg [(S w1.1), (I w1.2.1), (I w1.2.2.1), (I w1.2.2.2.1), (I w1.2.2.2.2.1), (encL I w1.2.2.2.2.2.1), (encL I w1.2.2.2.2.2.2.1), (I w1.2.2.2.2.2.2.2.1), (I w1.2.2.2.2.2.2.2.2.1), (I w1.2.2.2.2.2.2.2.2.2.1), (I w1.2.2.2.2.2.2.2.2.2.2.1), (I w1.2.2.2.2.2.2.2.2.2.2.2.1), (encL encTworth_zone w1.2.2.2.2.2.2.2.2.2.2.2.2.1), (.arr 990 0 w1.2.2.2.2.2.2.2.2.2.2.2.2.2.length)])]⟩)]) (fun w1 => w1 = y1) rfl rfl ?_ ?_
            · skip
              refine awp_seq ?_
              refine awp_go hmix ?_
              refine go_run' ttok 1 rfl ?_
              refine go_lenT encDf d ttok rfl rfl rfl rfl rfl rfl ?_
              refine go_run' ttok 1 rfl ?_
              refine go_nil nd ?_
              refine then_norm ?_
              refine awp_block ?_
              refine awp_loopD (X := (Int × ByteArray × Int × Int × Int × Int × (List Int) × (List Int) × Int × Int × Int × Int × Int × (List Tworth_zone) × (List Df))) (Y := (ByteArray × Int × Int × Int × Int × (List Int) × (List Int) × Int × Int × Int × Int × Int × (List Tworth_zone) × (List Df))) [8, 13, 14, 83, 84] [8, 14] (fun q => [(85, (I q.1))]) (fun q => [(990, some ⟨61, 7, q.2.2.2.2.2.2.2.2.2.2.2.2.2.2.map encDf⟩), (13, some ⟨94, 14, [(.agg [(S q.2.1), (I q.2.2.1), (I q.2.2.2.1), (I q.2.2.2.2.1), (I q.2.2.2.2.2.1), (encL I q.2.2.2.2.2.2.1), (encL I q.2.2.2.2.2.2.2.1), (I q.2.2.2.2.2.2.2.2.1), (I q.2.2.2.2.2.2.2.2.2.1), (I q.2.2.2.2.2.2.2.2.2.2.1), (I q.2.2.2.2.2.2.2.2.2.2.2.1), (I q.2.2.2.2.2.2.2.2.2.2.2.2.1), (encL encTworth_zone q.2.2.2.2.2.2.2.2.2.2.2.2.2.1), (.arr 990 0 q.2.2.2.2.2.2.2.2.2.2.2.2.2.2.length)])]⟩)]) (fun q => worth_look_s1 d bv q.1 q.2.1 q.2.2.1 q.2.2.2.1 q.2.2.2.2.1 q.2.2.2.2.2.1 q.2.2.2.2.2.2.1 q.2.2.2.2.2.2.2.1 q.2.2.2.2.2.2.2.2.1 q.2.2.2.2.2.2.2.2.2.1 q.2.2.2.2.2.2.2.2.2.2.1 q.2.2.2.2.2.2.2.2.2.2.2.1 q.2.2.2.2.2.2.2.2.2.2.2.2.1 q.2.2.2.2.2.2.2.2.2.2.2.2.2.1 q.2.2.2.2.2.2.2.2.2.2.2.2.2.2) (0, p.Name, p.Thick, p.Width, p.Allow, p.Wane, p.Lengths, p.Prices, vr.X.a, vr.X.b, vr.Y.a, vr.Y.b, lv, lv1, []) [(990, none), (13, some 13), (8, some 8), (14, some 14)] hx25 ⟨rfl, rfl, rfl, rfl, rfl, ⟨wkP_id _ rfl, trivial⟩, ⟨rfl, ⟨_, rfl, rfl, rfl, .inr ⟨⟨⟨wkP_id _ rfl, wkP_id _ rfl, wkP_id _ rfl, wkP_id _ rfl, wkP_id _ rfl, wkP_id _ rfl, wkP_id _ rfl, wkP_id _ rfl, wkP_id _ rfl, wkP_id _ rfl, wkP_id _ rfl, wkP_id _ rfl, wkP_id _ rfl, ⟨rfl, rfl, (by first | rfl | simp [setI])⟩, trivial⟩, trivial⟩, ⟨rfl, trivial⟩⟩⟩, trivial⟩⟩ (fun x vR vz hz27 hk28 => ?_)
              obtain ⟨vv14, vv15, vv16, vv17, vv18, vv19, vv20, vv21, vv22, vv23, vv24, vv25, vv26, vv27, vv28⟩ := x
              change worth_look_s1 d bv vv14 vv15 vv16 vv17 vv18 vv19 vv20 vv21 vv22 vv23 vv24 vv25 vv26 vv27 vv28 = _ at hz27
              unfold worth_look_s1 at hz27
              refine awp_seq ?_
              refine awp_go hmix ?_
              refine go_run' ttok 1 rfl ?_
              refine go_nil nd ?_
              refine then_norm ?_
              refine awp_seq ?_
              refine awp_cond (b := (decide (vv14 < ((d.length : Nat) : Int)))) rfl (fun c29 => ?_) (fun c29 => ?_)
              · replace hz27 := of_bif_t hz27 c29
                refine awp_skip ?_
                refine then_norm ?_
                refine awp_seq ?_
                refine awp_block ?_
                refine awp_seq ?_
                refine awp_go hmix ?_
                obtain ⟨e, hv30, hz27⟩ := of_obind hz27
                refine go_indexT encDf d vv14 e hv30 ttok rfl rfl rfl rfl rfl rfl rfl rfl rfl ?_
                refine go_run' ttok 3 rfl ?_
                refine go_nil nd ?_
                refine then_norm ?_
                refine awp_seq ?_
                refine awp_go hmix ?_
                refine go_run' ttok 2 rfl ?_
                refine go_call fn76 (defect_Touches_w e bv _ rfl) rfl rfl rfl rfl rfl rfl rfl ?_
                refine go_nil nd ?_
                refine then_norm ?_
                refine awp_cond (b := (defect_Touches_g e bv)) rfl (fun c31 => ?_) (fun c31 => ?_)
                · replace hz27 := of_bif_t hz27 c31
                  refine awp_go hmix ?_
                  refine go_run' ttok 4 rfl ?_
                  obtain ⟨l1, hv32, hz27⟩ := of_obind hz27
                  refine go_appT encDf vv28 ([e]) l1 hv32 (fun _ => rfl) (by first | rfl | simp [setI]) (by first | rfl | simp [setI]) ttok rfl rfl rfl rfl rfl rfl rfl rfl rfl rfl rfl rfl rfl rfl rfl rfl rfl ?_
                  refine go_run' ttok 2 rfl ?_
                  refine go_nil nd ?_
                  refine block_norm ?_
                  refine then_norm ?_
                  refine awp_go hmix ?_
                  refine go_run' ttok 2 rfl ?_
                  refine go_nil nd ?_
                  have e33 := of_some hz27
                  subst e33
                  refine then_norm ⟨rfl, ((W64 (vv14 + 1)), vv15, vv16, vv17, vv18, vv19, vv20, vv21, vv22, vv23, vv24, vv25, vv26, vv27, l1), [(990, some 96), (13, some 13), (8, some 8), (14, some 14)], ⟨rfl, rfl, rfl, rfl, rfl, ⟨wkP_id _ rfl, trivial⟩, ⟨⟨_, rfl, rfl, rfl, wkX_map (enc := encDf) l1 (fun _ => rfl)⟩, ⟨_, rfl, rfl, rfl, .inr ⟨⟨⟨wkP_id _ rfl, wkP_id _ rfl, wkP_id _ rfl, wkP_id _ rfl, wkP_id _ rfl, wkP_id _ rfl, wkP_id _ rfl, wkP_id _ rfl, wkP_id _ rfl, wkP_id _ rfl, wkP_id _ rfl, wkP_id _ rfl, wkP_id _ rfl, ⟨rfl, rfl, (by first | rfl | simp [setI])⟩, trivial⟩, trivial⟩, ⟨rfl, trivial⟩⟩⟩, trivial⟩⟩, hk28⟩
                · replace hz27 := of_bif_f hz27 c31
                  refine awp_skip ?_
                  refine block_norm ?_
                  refine then_norm ?_
                  refine awp_go hmix ?_
                  refine go_run' ttok 2 rfl ?_
                  refine go_nil nd ?_
                  have e34 := of_some hz27
                  subst e34
                  refine then_norm ⟨rfl, ((W64 (vv14 + 1)), vv15, vv16, vv17, vv18, vv19, vv20, vv21, vv22, vv23, vv24, vv25, vv26, vv27, vv28), [(990, some 990), (13, some 13), (8, some 8), (14, some 14)], ⟨rfl, rfl, rfl, rfl, rfl, ⟨wkP_id _ rfl, trivial⟩, ⟨⟨_, rfl, rfl, rfl, wkX_map (enc := encDf) vv28 (fun _ => rfl)⟩, ⟨_, rfl, rfl, rfl, .inr ⟨⟨⟨wkP_id _ rfl, wkP_id _ rfl, wkP_id _ rfl, wkP_id _ rfl, wkP_id _ rfl, wkP_id _ rfl, wkP_id _ rfl, wkP_id _ rfl, wkP_id _ rfl, wkP_id _ rfl, wkP_id _ rfl, wkP_id _ rfl, wkP_id _ rfl, ⟨rfl, rfl, (by first | rfl | simp [setI])⟩, trivial⟩, trivial⟩, ⟨rfl, trivial⟩⟩⟩, trivial⟩⟩, hk28⟩
              · replace hz27 := of_bif_f hz27 c29
                refine awp_exit ?_
                refine then_exit ?_
                obtain ⟨t1, hn35, hq⟩ := of_mapr' hz27
                subst hq
                have hq : t1 = _ := hk28
                subst hq
                refine then_exit ?_
                refine block_here ?_
                have e36 := of_some hn35
                refine then_norm ⟨rfl, (vv15, vv16, vv17, vv18, vv19, vv20, vv21, vv22, vv23, vv24, vv25, vv26, vv27, vv28), [(990, some 990), (13, some 13), (8, some 8)], ⟨rfl, rfl, rfl, rfl, rfl, trivial, ⟨⟨_, rfl, rfl, rfl, wkX_map (enc := encDf) vv28 (fun _ => rfl)⟩, ⟨_, rfl, rfl, rfl, .inr ⟨⟨⟨wkP_id _ rfl, wkP_id _ rfl, wkP_id _ rfl, wkP_id _ rfl, wkP_id _ rfl, wkP_id _ rfl, wkP_id _ rfl, wkP_id _ rfl, wkP_id _ rfl, wkP_id _ rfl, wkP_id _ rfl, wkP_id _ rfl, wkP_id _ rfl, ⟨rfl, rfl, (by first | rfl | simp [setI])⟩, trivial⟩, trivial⟩, ⟨rfl, trivial⟩⟩⟩, trivial⟩⟩, e36⟩
            · intro w1 hw26
              subst hw26
              obtain ⟨vv, vv1, vv2, vv3, vv4, vv5, vv6, vv7, vv8, vv9, vv10, vv11, vv12, vv13⟩ := w1
              refine awp_seq ?_
              refine awp_go hmix ?_
              refine go_run' ttok 3 rfl ?_
              refine go_nil nd ?_
              refine then_norm ?_
              refine awp_freezeM [8, 9] [] [(990, some ⟨61, 7, vv13.map encDf⟩)] [(8, some 8)] [] [(8, some ⟨94, 14, [(.agg [(S vv), (I vv1), (I vv2), (I vv3), (I vv4), (encL I vv5), (encL I vv6), (I vv7), (I vv8), (I vv9), (I vv10), (I vv11), (encL encTworth_zone vv12), (encL encDf vv13)])]⟩)] rfl rfl rfl rfl rfl ⟨rfl, by decide, trivial⟩ trivial ⟨⟨_, rfl, rfl, rfl, .inr ⟨⟨⟨(wkP_id _ rfl), (wkP_id _ rfl), (wkP_id _ rfl), (wkP_id _ rfl), (wkP_id _ rfl), (wkP_id _ rfl), (wkP_id _ rfl), (wkP_id _ rfl), (wkP_id _ rfl), (wkP_id _ rfl), (wkP_id _ rfl), (wkP_id _ rfl), (wkP_id _ rfl), (wkP_lend rfl (by first | rfl | simp [setI]) (fun _ => rfl)), trivial⟩, trivial⟩, ⟨rfl, trivial⟩⟩⟩, trivial⟩ ?_
              refine awp_ret ?_
              have e37 := of_some h
              subst e37
              refine ret_ret ?_
              refine fin0 ttok rfl rfl ?_
              exact wkP_refl _ rfl
noncomputable def worth_look_cs1 (N : Nat) (d : (List Df)) (bv : Bx) (vv14 : Int) (vv15 : ByteArray) (vv16 : Int) (vv17 : Int) (vv18 : Int) (vv19 : Int) (vv20 : (List Int)) (vv21 : (List Int)) (vv22 : Int) (vv23 : Int) (vv24 : Int) (vv25 : Int) (vv26 : Int) (vv27 : (List Tworth_zone)) (vv28 : (List Df)) : Option ((Int × ByteArray × Int × Int × Int × Int × (List Int) × (List Int) × Int × Int × Int × Int × Int × (List Tworth_zone) × (List Df)) ⊕ (ByteArray × Int × Int × Int × Int × (List Int) × (List Int) × Int × Int × Int × Int × Int × (List Tworth_zone) × (List Df))) :=
  (bif (decide (vv14 < ((d.length : Nat) : Int))) then (Option.bind (getI d vv14) (fun e => (bif (defect_Touches_g e bv) then (Option.bind (appO 56 vv28 ([e])) (fun l1 => some (Sum.inl ((W64 (vv14 + 1)), vv15, vv16, vv17, vv18, vv19, vv20, vv21, vv22, vv23, vv24, vv25, vv26, vv27, l1)))) else some (Sum.inl ((W64 (vv14 + 1)), vv15, vv16, vv17, vv18, vv19, vv20, vv21, vv22, vv23, vv24, vv25, vv26, vv27, vv28))))) else some (Sum.inr (vv15, vv16, vv17, vv18, vv19, vv20, vv21, vv22, vv23, vv24, vv25, vv26, vv27, vv28)))
theorem worth_look_cs1_le (N : Nat) (d : (List Df)) (bv : Bx) (vv14 : Int) (vv15 : ByteArray) (vv16 : Int) (vv17 : Int) (vv18 : Int) (vv19 : Int) (vv20 : (List Int)) (vv21 : (List Int)) (vv22 : Int) (vv23 : Int) (vv24 : Int) (vv25 : Int) (vv26 : Int) (vv27 : (List Tworth_zone)) (vv28 : (List Df)) : OLe (worth_look_cs1 N d bv vv14 vv15 vv16 vv17 vv18 vv19 vv20 vv21 vv22 vv23 vv24 vv25 vv26 vv27 vv28) (worth_look_s1 d bv vv14 vv15 vv16 vv17 vv18 vv19 vv20 vv21 vv22 vv23 vv24 vv25 vv26 vv27 vv28) := by
  unfold worth_look_cs1 worth_look_s1
  repeat' (first | exact ole_rfl | exact solid_Check_le _ _ | exact defect_Check_le _ _ | exact product_Check_le _ _ | exact worth_isRect_le _ _ | exact solid_Length_le _ _ | exact worth_lacks_le _ _ _ | refine ole_bif ?_ ?_ | refine ole_bind ?_ (fun _ => ?_) | refine ole_let (fun _ => ?_) | refine ole_map ?_ | refine ole_elim (fun _ => ?_) (fun _ => ?_) | refine ole_loop (fun _ => ?_))
noncomputable def worth_look_c (N : Nat) (l : (List TSlice)) (d : (List Df)) (p : TProduct) (vr : TRect) : Option (Tworth_view × Bool) :=
  (Option.bind ((solid_Check_c N) l) (fun cv => (bif (cv != 0) then some ((⟨(⟨(⟨#[]⟩ : ByteArray), 0, 0, 0, 0, [], []⟩ : TProduct), (⟨(⟨0, 0⟩ : Sp), (⟨0, 0⟩ : Sp)⟩ : TRect), 0, [], []⟩ : Tworth_view), false) else (Option.bind ((defect_Check_c N) d) (fun cv1 => (bif (cv1 != 0) then some ((⟨(⟨(⟨#[]⟩ : ByteArray), 0, 0, 0, 0, [], []⟩ : TProduct), (⟨(⟨0, 0⟩ : Sp), (⟨0, 0⟩ : Sp)⟩ : TRect), 0, [], []⟩ : Tworth_view), false) else (Option.bind ((product_Check_c N) ([p])) (fun cv2 => (bif (cv2 != 0) then some ((⟨(⟨(⟨#[]⟩ : ByteArray), 0, 0, 0, 0, [], []⟩ : TProduct), (⟨(⟨0, 0⟩ : Sp), (⟨0, 0⟩ : Sp)⟩ : TRect), 0, [], []⟩ : Tworth_view), false) else (Option.bind ((worth_isRect_c N) vr) (fun iv => (bif (!iv) then some ((⟨(⟨(⟨#[]⟩ : ByteArray), 0, 0, 0, 0, [], []⟩ : TProduct), (⟨(⟨0, 0⟩ : Sp), (⟨0, 0⟩ : Sp)⟩ : TRect), 0, [], []⟩ : Tworth_view), false) else (letB (product_Green_g p) (fun gv => (Option.bind ((bif (!((W64 (vr.X.b - vr.X.a)) == gv.1 && ((W64 (vr.Y.b - vr.Y.a)) == gv.2 && true))) then (bif (!((W64 (vr.X.b - vr.X.a)) == gv.2 && ((W64 (vr.Y.b - vr.Y.a)) == gv.1 && true))) then some (Sum.inl ((⟨(⟨(⟨#[]⟩ : ByteArray), 0, 0, 0, 0, [], []⟩ : TProduct), (⟨(⟨0, 0⟩ : Sp), (⟨0, 0⟩ : Sp)⟩ : TRect), 0, [], []⟩ : Tworth_view), false)) else some (Sum.inr ())) else some (Sum.inr ())) : Option ((Tworth_view × Bool) ⊕ Unit)) (Sum.elim (fun q => some q) (fun _ => (Option.bind ((solid_Length_c N) l) (fun lv => (Option.bind ((worth_lacks_c N) l vr) (fun lv1 => (letB (worth_view__box_g (⟨p, vr, lv, lv1, []⟩ : Tworth_view) (⟨0, lv⟩ : Sp)) (fun bv => (Option.bind ((iterX N (fun q => worth_look_cs1 N d bv q.1 q.2.1 q.2.2.1 q.2.2.2.1 q.2.2.2.2.1 q.2.2.2.2.2.1 q.2.2.2.2.2.2.1 q.2.2.2.2.2.2.2.1 q.2.2.2.2.2.2.2.2.1 q.2.2.2.2.2.2.2.2.2.1 q.2.2.2.2.2.2.2.2.2.2.1 q.2.2.2.2.2.2.2.2.2.2.2.1 q.2.2.2.2.2.2.2.2.2.2.2.2.1 q.2.2.2.2.2.2.2.2.2.2.2.2.2.1 q.2.2.2.2.2.2.2.2.2.2.2.2.2.2) (0, p.Name, p.Thick, p.Width, p.Allow, p.Wane, p.Lengths, p.Prices, vr.X.a, vr.X.b, vr.Y.a, vr.Y.b, lv, lv1, [])) : Option (ByteArray × Int × Int × Int × Int × (List Int) × (List Int) × Int × Int × Int × Int × Int × (List Tworth_zone) × (List Df))) (fun w2 => some ((⟨(⟨w2.1, w2.2.1, w2.2.2.1, w2.2.2.2.1, w2.2.2.2.2.1, w2.2.2.2.2.2.1, w2.2.2.2.2.2.2.1⟩ : TProduct), (⟨(⟨w2.2.2.2.2.2.2.2.1, w2.2.2.2.2.2.2.2.2.1⟩ : Sp), (⟨w2.2.2.2.2.2.2.2.2.2.1, w2.2.2.2.2.2.2.2.2.2.2.1⟩ : Sp)⟩ : TRect), w2.2.2.2.2.2.2.2.2.2.2.2.1, w2.2.2.2.2.2.2.2.2.2.2.2.2.1, w2.2.2.2.2.2.2.2.2.2.2.2.2.2⟩ : Tworth_view), true))))))))))))))))))))))))))
theorem worth_look_le (N : Nat) (l : (List TSlice)) (d : (List Df)) (p : TProduct) (vr : TRect) : OLe (worth_look_c N l d p vr) (worth_look_g l d p vr) := by
  unfold worth_look_c worth_look_g
  repeat' (first | exact ole_rfl | exact solid_Check_le _ _ | exact defect_Check_le _ _ | exact product_Check_le _ _ | exact worth_isRect_le _ _ | exact solid_Length_le _ _ | exact worth_lacks_le _ _ _ | exact worth_look_cs1_le _ _ _ _ _ _ _ _ _ _ _ _ _ _ _ _ _ _ | refine ole_bif ?_ ?_ | refine ole_bind ?_ (fun _ => ?_) | refine ole_let (fun _ => ?_) | refine ole_map ?_ | refine ole_elim (fun _ => ?_) (fun _ => ?_) | refine ole_loop (fun _ => ?_))

/-- sawmill/worth.isWithin -/
noncomputable def worth_isWithin_g (vz : Sp) (length : Int) : Bool :=
  (bif (decide (0 ≤ vz.a)) then (bif (decide (vz.a < vz.b)) then (decide (vz.b ≤ length)) else false) else false)
theorem worth_isWithin_w (vz : Sp) (length : Int) (r : Bool) (h : worth_isWithin_g vz length = r) : Holds Try.prog 34 [(encSp vz), (I length)] [] (B r) [] := by
  unfold worth_isWithin_g at h
  refine holds_fn Try.func34 rfl Try.ntmps34 rfl rfl rfl ?_
  refine awp_seq ?_
  refine awp_go hmix ?_
  refine go_run' ttok 2 rfl ?_
  refine go_nil nd ?_
  refine then_norm ?_
  refine awp_seq ?_
  refine awp_go hmix ?_
  refine go_run' ttok 4 rfl ?_
  refine go_gcase rfl rfl rfl (fun g1 => ?_) (fun g1 => ?_)
  · rw [g1]
    replace h := of_bif_t h g1
    refine go_run' ttok 7 rfl ?_
    refine go_gcase rfl rfl rfl (fun g2 => ?_) (fun g2 => ?_)
    · rw [g2]
      replace h := of_bif_t h g2
      refine go_run' ttok 6 rfl ?_
      refine go_nil nd ?_
      refine then_norm ?_
      refine awp_ret ?_
      have e3 := h
      subst e3
      refine ret_ret ?_
      refine fin0 ttok rfl rfl ?_
      exact (wkP_refl _ rfl)
    · rw [g2]
      replace h := of_bif_f h g2
      refine go_run' ttok 6 rfl ?_
      refine go_nil nd ?_
      refine then_norm ?_
      refine awp_ret ?_
      have e4 := h
      subst e4
      refine ret_ret ?_
      refine fin0 ttok rfl rfl ?_
      exact (wkP_refl _ rfl)
  · rw [g1]
    replace h := of_bif_f h g1
    refine go_run' ttok 13 rfl ?_
    refine go_nil nd ?_
    refine then_norm ?_
    refine awp_ret ?_
    have e5 := h
    subst e5
    refine ret_ret ?_
    refine fin0 ttok rfl rfl ?_
    exact (wkP_refl _ rfl)

noncomputable def product_Price_s1 (p : TProduct) (length : Int) (vv : Int) : Option (Int ⊕ ((Int × Bool) ⊕ Unit)) :=
  (bif (decide (vv < ((p.Lengths.length : Nat) : Int))) then (Option.bind (getI p.Lengths vv) (fun e => (bif (e != length) then some (Sum.inl (W64 (vv + 1))) else (bif (decide (((p.Prices.length : Nat) : Int) ≤ vv)) then some (Sum.inr (Sum.inl (0, false))) else (Option.bind (getI p.Prices vv) (fun e1 => some (Sum.inr (Sum.inl (e1, true))))))))) else some (Sum.inr (Sum.inr ())))
/-- sawmill/product.Price -/
noncomputable def product_Price_g (p : TProduct) (length : Int) : Option (Int × Bool) :=
  (Option.bind ((loopO (fun q => product_Price_s1 p length q) 0) : Option ((Int × Bool) ⊕ Unit)) (Sum.elim (fun q => some q) (fun _ => some (0, false))))
theorem product_Price_w (p : TProduct) (length : Int) (r : (Int × Bool)) (h : product_Price_g p length = some r) : Holds Try.prog 24 [(encTProduct p), (I length)] [] (.tup [(I r.1), (B r.2)]) [] := by
  unfold product_Price_g at h
  refine holds_fn Try.func24 rfl Try.ntmps24 rfl rfl rfl ?_
  refine awp_seq ?_
  refine awp_go hmix ?_
  refine go_run' ttok 3 rfl ?_
  refine go_nil nd ?_
  refine then_norm ?_
  obtain ⟨y, hx1, h⟩ := of_obind h
  refine awp_seqJ (X := Unit) [] [] (fun _ => []) (fun _ => []) (fun w => Sum.inr w = y) rfl rfl ?_ ?_
  · skip
    refine awp_seq ?_
    refine awp_go hmix ?_
    refine go_run' ttok 2 rfl ?_
    refine go_lenT I p.Lengths ttok rfl rfl rfl rfl rfl rfl ?_
    refine go_run' ttok 1 rfl ?_
    refine go_nil nd ?_
    refine then_norm ?_
    refine awp_block ?_
    refine awp_loopD (X := Int) (Y := ((Int × Bool) ⊕ Unit)) [1, 2, 9, 10] [2] (fun q => [(11, (I q))]) (fun q => []) (fun q => product_Price_s1 p length q) 0 [(2, some 2)] hx1 ⟨rfl, rfl, rfl, rfl, rfl, ⟨wkP_id _ rfl, trivial⟩, trivial⟩ (fun vv vR vz hz3 hk4 => ?_)
    change product_Price_s1 p length vv = _ at hz3
    unfold product_Price_s1 at hz3
    refine awp_seq ?_
    refine awp_go hmix ?_
    refine go_run' ttok 1 rfl ?_
    refine go_nil nd ?_
    refine then_norm ?_
    refine awp_seq ?_
    refine awp_cond (b := (decide (vv < ((p.Lengths.length : Nat) : Int)))) rfl (fun c5 => ?_) (fun c5 => ?_)
    · replace hz3 := of_bif_t hz3 c5
      refine awp_skip ?_
      refine then_norm ?_
      refine awp_seq ?_
      refine awp_block ?_
      refine awp_seq ?_
      refine awp_go hmix ?_
      refine go_run' ttok 1 rfl ?_
      obtain ⟨e, hv6, hz3⟩ := of_obind hz3
      refine go_indexT I p.Lengths vv e hv6 ttok rfl rfl rfl rfl rfl rfl rfl rfl rfl ?_
      refine go_run' ttok 3 rfl ?_
      refine go_nil nd ?_
      refine then_norm ?_
      refine awp_seq ?_
      refine awp_seq ?_
      refine awp_go hmix ?_
      refine go_run' ttok 3 rfl ?_
      refine go_nil nd ?_
      refine then_norm ?_
      refine awp_cond (b := (e != length)) rfl (fun c7 => ?_) (fun c7 => ?_)
      · replace hz3 := of_bif_t hz3 c7
        refine awp_exit ?_
        refine then_exit ?_
        refine block_here ?_
        refine then_norm ?_
        refine awp_go hmix ?_
        refine go_run' ttok 2 rfl ?_
        refine go_nil nd ?_
        have e8 := of_some hz3
        subst e8
        refine then_norm ⟨rfl, (W64 (vv + 1)), [(2, some 2)], ⟨rfl, rfl, rfl, rfl, rfl, ⟨wkP_id _ rfl, trivial⟩, trivial⟩, hk4⟩
      · replace hz3 := of_bif_f hz3 c7
        refine awp_skip ?_
        refine then_norm ?_
        refine awp_seq ?_
        refine awp_seq ?_
        refine awp_go hmix ?_
        refine go_run' ttok 3 rfl ?_
        refine go_lenT I p.Prices ttok rfl rfl rfl rfl rfl rfl ?_
        refine go_run' ttok 1 rfl ?_
        refine go_nil nd ?_
        refine then_norm ?_
        refine awp_cond (b := (decide (((p.Prices.length : Nat) : Int) ≤ vv))) rfl (fun c9 => ?_) (fun c9 => ?_)
        · replace hz3 := of_bif_t hz3 c9
          refine awp_seq ?_
          refine awp_go hmix ?_
          refine go_run' ttok 2 rfl ?_
          refine go_nil nd ?_
          refine then_norm ?_
          refine awp_ret ?_
          refine then_ret ?_
          refine block_ret ?_
          refine then_ret ?_
          obtain ⟨t, hn10, hq⟩ := of_mapr' hz3
          subst hq
          have hq : t = _ := hk4
          subst hq
          refine then_ret ?_
          refine block_ret ?_
          obtain ⟨t1, hn11, hq⟩ := of_mapl' hn10
          subst hq
          have hq := of_inl h
          replace hq := of_some hq
          subst hq
          refine then_ret ?_
          have e12 := of_some hn11
          subst e12
          refine ret_ret ?_
          refine fin0 ttok rfl rfl ?_
          exact wkP_refl _ rfl
        · replace hz3 := of_bif_f hz3 c9
          refine awp_skip ?_
          refine then_norm ?_
          refine awp_seq ?_
          refine awp_go hmix ?_
          refine go_run' ttok 3 rfl ?_
          obtain ⟨e1, hv13, hz3⟩ := of_obind hz3
          refine go_indexT I p.Prices vv e1 hv13 ttok rfl rfl rfl rfl rfl rfl rfl rfl rfl ?_
          refine go_run' ttok 3 rfl ?_
          refine go_nil nd ?_
          refine then_norm ?_
          refine awp_ret ?_
          refine block_ret ?_
          refine then_ret ?_
          obtain ⟨t2, hn14, hq⟩ := of_mapr' hz3
          subst hq
          have hq : t2 = _ := hk4
          subst hq
          refine then_ret ?_
          refine block_ret ?_
          obtain ⟨t3, hn15, hq⟩ := of_mapl' hn14
          subst hq
          have hq := of_inl h
          replace hq := of_some hq
          subst hq
          refine then_ret ?_
          have e16 := of_some hn15
          subst e16
          refine ret_ret ?_
          refine fin0 ttok rfl rfl ?_
          exact wkP_refl _ rfl
    · replace hz3 := of_bif_f hz3 c5
      refine awp_exit ?_
      refine then_exit ?_
      obtain ⟨t4, hn17, hq⟩ := of_mapr' hz3
      subst hq
      have hq : t4 = _ := hk4
      subst hq
      refine then_exit ?_
      refine block_here ?_
      have e18 := of_some hn17
      refine then_norm ⟨rfl, (), [], ⟨rfl, rfl, rfl, rfl, rfl, trivial, trivial⟩, e18⟩
  · intro w hw2
    subst hw2
    replace h := of_inr h
    refine awp_seq ?_
    refine awp_go hmix ?_
    refine go_run' ttok 2 rfl ?_
    refine go_nil nd ?_
    refine then_norm ?_
    refine awp_ret ?_
    have e19 := of_some h
    subst e19
    refine ret_ret ?_
    refine fin0 ttok rfl rfl ?_
    exact wkP_refl _ rfl
noncomputable def product_Price_cs1 (N : Nat) (p : TProduct) (length : Int) (vv : Int) : Option (Int ⊕ ((Int × Bool) ⊕ Unit)) :=
  (bif (decide (vv < ((p.Lengths.length : Nat) : Int))) then (Option.bind (getI p.Lengths vv) (fun e => (bif (e != length) then some (Sum.inl (W64 (vv + 1))) else (bif (decide (((p.Prices.length : Nat) : Int) ≤ vv)) then some (Sum.inr (Sum.inl (0, false))) else (Option.bind (getI p.Prices vv) (fun e1 => some (Sum.inr (Sum.inl (e1, true))))))))) else some (Sum.inr (Sum.inr ())))
theorem product_Price_cs1_le (N : Nat) (p : TProduct) (length : Int) (vv : Int) : OLe (product_Price_cs1 N p length vv) (product_Price_s1 p length vv) := by
  unfold product_Price_cs1 product_Price_s1
  repeat' (first | exact ole_rfl | refine ole_bif ?_ ?_ | refine ole_bind ?_ (fun _ => ?_) | refine ole_let (fun _ => ?_) | refine ole_map ?_ | refine ole_elim (fun _ => ?_) (fun _ => ?_) | refine ole_loop (fun _ => ?_))
noncomputable def product_Price_c (N : Nat) (p : TProduct) (length : Int) : Option (Int × Bool) :=
  (Option.bind ((iterX N (fun q => product_Price_cs1 N p length q) 0) : Option ((Int × Bool) ⊕ Unit)) (Sum.elim (fun q => some q) (fun _ => some (0, false))))
theorem product_Price_le (N : Nat) (p : TProduct) (length : Int) : OLe (product_Price_c N p length) (product_Price_g p length) := by
  unfold product_Price_c product_Price_g
  repeat' (first | exact ole_rfl | exact product_Price_cs1_le _ _ _ _ | refine ole_bif ?_ ?_ | refine ole_bind ?_ (fun _ => ?_) | refine ole_let (fun _ => ?_) | refine ole_map ?_ | refine ole_elim (fun _ => ?_) (fun _ => ?_) | refine ole_loop (fun _ => ?_))

noncomputable def worth_worst_s1 (l : (List Tworth_zone)) (vz : Sp) (most1 : Int) (vv : Int) : Option ((Int × Int) ⊕ Int) :=
  (bif (decide (vv < ((l.length : Nat) : Int))) then (Option.bind (getI l vv) (fun e => (bif (decide (e.z_.a < vz.b)) then (bif (decide (vz.a < e.z_.b)) then some (Sum.inl ((max most1 e.lack), (W64 (vv + 1)))) else some (Sum.inl (most1, (W64 (vv + 1))))) else some (Sum.inl (most1, (W64 (vv + 1))))))) else some (Sum.inr most1))
/-- sawmill/worth.worst -/
noncomputable def worth_worst_g (l : (List Tworth_zone)) (vz : Sp) : Option Int :=
  (Option.bind ((loopO (fun q => worth_worst_s1 l vz q.1 q.2) (0, 0)) : Option Int) (fun most => some most))
theorem worth_worst_w (l : (List Tworth_zone)) (vz : Sp) (r : Int) (h : worth_worst_g l vz = some r) : Holds Try.prog 35 [((encL encTworth_zone) l), (encSp vz)] [] (I r) [] := by
  unfold worth_worst_g at h
  refine holds_fn Try.func35 rfl Try.ntmps35 rfl rfl rfl ?_
  refine awp_seq ?_
  refine awp_go hmix ?_
  refine go_run' ttok 2 rfl ?_
  refine go_nil nd ?_
  refine then_norm ?_
  refine awp_seq ?_
  refine awp_go hmix ?_
  refine go_run' ttok 1 rfl ?_
  refine go_nil nd ?_
  refine then_norm ?_
  obtain ⟨y, hx1, h⟩ := of_obind h
  refine awp_seqJ (X := Int) [] [] (fun w => [(5, (I w))]) (fun w => []) (fun w => w = y) rfl rfl ?_ ?_
  · skip
    refine awp_seq ?_
    refine awp_go hmix ?_
    refine go_run' ttok 1 rfl ?_
    refine go_lenT encTworth_zone l ttok rfl rfl rfl rfl rfl rfl ?_
    refine go_run' ttok 1 rfl ?_
    refine go_nil nd ?_
    refine then_norm ?_
    refine awp_block ?_
    refine awp_loopD (X := (Int × Int)) (Y := Int) [3, 8, 9] [3] (fun q => [(5, (I q.1)), (10, (I q.2))]) (fun q => []) (fun q => worth_worst_s1 l vz q.1 q.2) (0, 0) [(3, some 3)] hx1 ⟨rfl, rfl, rfl, rfl, rfl, ⟨wkP_id _ rfl, wkP_id _ rfl, trivial⟩, trivial⟩ (fun x vR vz1 hz3 hk4 => ?_)
    obtain ⟨most1, vv⟩ := x
    change worth_worst_s1 l vz most1 vv = _ at hz3
    unfold worth_worst_s1 at hz3
    refine awp_seq ?_
    refine awp_go hmix ?_
    refine go_run' ttok 1 rfl ?_
    refine go_nil nd ?_
    refine then_norm ?_
    refine awp_seq ?_
    refine awp_cond (b := (decide (vv < ((l.length : Nat) : Int)))) rfl (fun c5 => ?_) (fun c5 => ?_)
    · replace hz3 := of_bif_t hz3 c5
      refine awp_skip ?_
      refine then_norm ?_
      refine awp_seq ?_
      refine awp_block ?_
      refine awp_seq ?_
      refine awp_go hmix ?_
      obtain ⟨e, hv6, hz3⟩ := of_obind hz3
      refine go_indexT encTworth_zone l vv e hv6 ttok rfl rfl rfl rfl rfl rfl rfl rfl rfl ?_
      refine go_run' ttok 3 rfl ?_
      refine go_nil nd ?_
      refine then_norm ?_
      refine awp_seq ?_
      refine awp_go hmix ?_
      refine go_run' ttok 7 rfl ?_
      refine go_gcase rfl rfl rfl (fun g7 => ?_) (fun g7 => ?_)
      · rw [g7]
        replace hz3 := of_bif_t hz3 g7
        refine go_run' ttok 7 rfl ?_
        refine go_nil nd ?_
        refine then_norm ?_
        refine awp_cond (b := (decide (vz.a < e.z_.b))) rfl (fun c8 => ?_) (fun c8 => ?_)
        · replace hz3 := of_bif_t hz3 c8
          refine awp_go hmix ?_
          refine go_run' ttok 5 rfl ?_
          refine go_nil nd ?_
          refine block_norm ?_
          refine then_norm ?_
          refine awp_go hmix ?_
          refine go_run' ttok 2 rfl ?_
          refine go_nil nd ?_
          have e9 := of_some hz3
          subst e9
          refine then_norm ⟨rfl, ((max most1 e.lack), (W64 (vv + 1))), [(3, some 3)], ⟨rfl, rfl, rfl, rfl, rfl, ⟨wkP_id _ rfl, wkP_id _ rfl, trivial⟩, trivial⟩, hk4⟩
        · replace hz3 := of_bif_f hz3 c8
          refine awp_skip ?_
          refine block_norm ?_
          refine then_norm ?_
          refine awp_go hmix ?_
          refine go_run' ttok 2 rfl ?_
          refine go_nil nd ?_
          have e10 := of_some hz3
          subst e10
          refine then_norm ⟨rfl, (most1, (W64 (vv + 1))), [(3, some 3)], ⟨rfl, rfl, rfl, rfl, rfl, ⟨wkP_id _ rfl, wkP_id _ rfl, trivial⟩, trivial⟩, hk4⟩
      · rw [g7]
        replace hz3 := of_bif_f hz3 g7
        refine go_run' ttok 7 rfl ?_
        refine go_nil nd ?_
        refine then_norm ?_
        refine awp_cond rfl (fun h => by cases h) (fun tt0 => ?_)
        clear tt0
        refine awp_skip ?_
        refine block_norm ?_
        refine then_norm ?_
        refine awp_go hmix ?_
        refine go_run' ttok 2 rfl ?_
        refine go_nil nd ?_
        have e11 := of_some hz3
        subst e11
        refine then_norm ⟨rfl, (most1, (W64 (vv + 1))), [(3, some 3)], ⟨rfl, rfl, rfl, rfl, rfl, ⟨wkP_id _ rfl, wkP_id _ rfl, trivial⟩, trivial⟩, hk4⟩
    · replace hz3 := of_bif_f hz3 c5
      refine awp_exit ?_
      refine then_exit ?_
      obtain ⟨t, hn12, hq⟩ := of_mapr' hz3
      subst hq
      have hq : t = _ := hk4
      subst hq
      refine then_exit ?_
      refine block_here ?_
      have e13 := of_some hn12
      refine then_norm ⟨rfl, most1, [], ⟨rfl, rfl, rfl, rfl, rfl, ⟨wkP_id _ rfl, trivial⟩, trivial⟩, e13⟩
  · intro most hw2
    subst hw2
    refine awp_seq ?_
    refine awp_go hmix ?_
    refine go_run' ttok 2 rfl ?_
    refine go_nil nd ?_
    refine then_norm ?_
    refine awp_ret ?_
    have e14 := of_some h
    subst e14
    refine ret_ret ?_
    refine fin0 ttok rfl rfl ?_
    exact (wkP_refl _ rfl)
noncomputable def worth_worst_cs1 (N : Nat) (l : (List Tworth_zone)) (vz : Sp) (most1 : Int) (vv : Int) : Option ((Int × Int) ⊕ Int) :=
  (bif (decide (vv < ((l.length : Nat) : Int))) then (Option.bind (getI l vv) (fun e => (bif (decide (e.z_.a < vz.b)) then (bif (decide (vz.a < e.z_.b)) then some (Sum.inl ((max most1 e.lack), (W64 (vv + 1)))) else some (Sum.inl (most1, (W64 (vv + 1))))) else some (Sum.inl (most1, (W64 (vv + 1))))))) else some (Sum.inr most1))
theorem worth_worst_cs1_le (N : Nat) (l : (List Tworth_zone)) (vz : Sp) (most1 : Int) (vv : Int) : OLe (worth_worst_cs1 N l vz most1 vv) (worth_worst_s1 l vz most1 vv) := by
  unfold worth_worst_cs1 worth_worst_s1
  repeat' (first | exact ole_rfl | refine ole_bif ?_ ?_ | refine ole_bind ?_ (fun _ => ?_) | refine ole_let (fun _ => ?_) | refine ole_map ?_ | refine ole_elim (fun _ => ?_) (fun _ => ?_) | refine ole_loop (fun _ => ?_))
noncomputable def worth_worst_c (N : Nat) (l : (List Tworth_zone)) (vz : Sp) : Option Int :=
  (Option.bind ((iterX N (fun q => worth_worst_cs1 N l vz q.1 q.2) (0, 0)) : Option Int) (fun most => some most))
theorem worth_worst_le (N : Nat) (l : (List Tworth_zone)) (vz : Sp) : OLe (worth_worst_c N l vz) (worth_worst_g l vz) := by
  unfold worth_worst_c worth_worst_g
  repeat' (first | exact ole_rfl | exact worth_worst_cs1_le _ _ _ _ _ | refine ole_bif ?_ ?_ | refine ole_bind ?_ (fun _ => ?_) | refine ole_let (fun _ => ?_) | refine ole_map ?_ | refine ole_elim (fun _ => ?_) (fun _ => ?_) | refine ole_loop (fun _ => ?_))

noncomputable def worth_view__worth_s1 (vv : Tworth_view) (fine : Int) (bv : Bx) (worth1 : Int) (vv1 : Int) : Option ((Int × Int) ⊕ ((Int × Bool) ⊕ Int)) :=
  (bif (decide (vv1 < ((vv.defects.length : Nat) : Int))) then (Option.bind (getI vv.defects vv1) (fun e => (bif (!(defect_Touches_g e bv)) then some (Sum.inl (worth1, (W64 (vv1 + 1)))) else (bif (e.k == 3) then some (Sum.inr (Sum.inl (0, false))) else some (Sum.inl ((W64 (worth1 - fine)), (W64 (vv1 + 1)))))))) else some (Sum.inr (Sum.inr worth1)))
/-- (sawmill/worth.view).worth -/
noncomputable def worth_view__worth_g (vv : Tworth_view) (vz : Sp) (fine : Int) : Option (Int × Bool) :=
  (bif (!(worth_isWithin_g vz vv.length)) then some (0, false) else (Option.bind (product_Price_g vv.product (W64 (vz.b - vz.a))) (fun pv => (bif (!pv.2) then some (0, false) else (Option.bind (worth_worst_g vv.zones vz) (fun wv => (bif (decide (vv.product.Wane < wv)) then some (0, false) else (letB (worth_view__box_g vv vz) (fun bv => (Option.bind ((loopO (fun q => worth_view__worth_s1 vv fine bv q.1 q.2) (pv.1, 0)) : Option ((Int × Bool) ⊕ Int)) (Sum.elim (fun q => some q) (fun worth => some ((max worth 0), true)))))))))))))
theorem worth_view__worth_w (vv : Tworth_view) (vz : Sp) (fine : Int) (r : (Int × Bool)) (h : worth_view__worth_g vv vz fine = some r) : Holds Try.prog 55 [(encTworth_view vv), (encSp vz), (I fine)] [] (.tup [(I r.1), (B r.2)]) [] := by
  unfold worth_view__worth_g at h
  refine holds_fn Try.func55 rfl Try.ntmps55 rfl rfl rfl ?_
  refine awp_seq ?_
  refine awp_go hmix ?_
  refine go_run' ttok 4 rfl ?_
  refine go_nil nd ?_
  refine then_norm ?_
  refine awp_seq ?_
  refine awp_seq ?_
  refine awp_go hmix ?_
  refine go_run' ttok 3 rfl ?_
  refine go_call fn34 (worth_isWithin_w vz vv.length _ rfl) rfl rfl rfl rfl rfl rfl rfl ?_
  refine go_run' ttok 1 rfl ?_
  refine go_nil nd ?_
  refine then_norm ?_
  refine awp_cond (b := (!(worth_isWithin_g vz vv.length))) rfl (fun c1 => ?_) (fun c1 => ?_)
  · replace h := of_bif_t h c1
    refine awp_seq ?_
    refine awp_go hmix ?_
    refine go_run' ttok 2 rfl ?_
    refine go_nil nd ?_
    refine then_norm ?_
    refine awp_ret ?_
    refine then_ret ?_
    have e2 := of_some h
    subst e2
    refine ret_ret ?_
    refine fin0 ttok rfl rfl ?_
    exact wkP_refl _ rfl
  · replace h := of_bif_f h c1
    refine awp_skip ?_
    refine then_norm ?_
    refine awp_seq ?_
    refine awp_go hmix ?_
    refine go_run' ttok 7 rfl ?_
    obtain ⟨pv, hv3, h⟩ := of_obind h
    refine go_call fn24 (product_Price_w vv.product (W64 (vz.b - vz.a)) pv hv3) rfl rfl rfl rfl rfl rfl rfl ?_
    refine go_run' ttok 5 rfl ?_
    refine go_nil nd ?_
    refine then_norm ?_
    refine awp_seq ?_
    refine awp_seq ?_
    refine awp_go hmix ?_
    refine go_run' ttok 3 rfl ?_
    refine go_gcase rfl rfl rfl (fun g4 => ?_) (fun g4 => ?_)
    · rw [g4]
      replace h := of_bif_t h g4
      refine go_run' ttok 9 rfl ?_
      refine go_nil (fun _ => by kernel_rfl) ?_
      refine then_norm ?_
      refine awp_cond rfl (fun tt0 => ?_) (fun h => by cases h)
      clear tt0
      refine awp_seq ?_
      refine awp_go hmix ?_
      refine go_run' ttok 2 rfl ?_
      refine go_nil nd ?_
      refine then_norm ?_
      refine awp_ret ?_
      refine then_ret ?_
      have e5 := of_some h
      subst e5
      refine ret_ret ?_
      refine fin0 ttok rfl rfl ?_
      exact wkP_refl _ rfl
    · rw [g4]
      replace h := of_bif_f h g4
      refine go_run' ttok 3 rfl ?_
      obtain ⟨wv, hv6, h⟩ := of_obind h
      refine go_call fn35 (worth_worst_w vv.zones vz wv hv6) rfl rfl rfl rfl rfl rfl rfl ?_
      refine go_run' ttok 5 rfl ?_
      refine go_nil (fun _ => by kernel_rfl) ?_
      refine then_norm ?_
      refine awp_cond (b := (decide (vv.product.Wane < wv))) rfl (fun c7 => ?_) (fun c7 => ?_)
      · replace h := of_bif_t h c7
        refine awp_seq ?_
        refine awp_go hmix ?_
        refine go_run' ttok 2 rfl ?_
        refine go_nil nd ?_
        refine then_norm ?_
        refine awp_ret ?_
        refine then_ret ?_
        have e8 := of_some h
        subst e8
        refine ret_ret ?_
        refine fin0 ttok rfl rfl ?_
        exact wkP_refl _ rfl
      · replace h := of_bif_f h c7
        refine awp_skip ?_
        refine then_norm ?_
        refine awp_seq ?_
        refine awp_go hmix ?_
        refine go_run' ttok 2 rfl ?_
        obtain ⟨bv, hv9, h⟩ := of_let h
        refine go_call fn75 (worth_view__box_w vv vz bv hv9) rfl rfl rfl rfl rfl rfl rfl ?_
        refine go_run' ttok 2 rfl ?_
        refine go_nil nd ?_
        refine then_norm ?_
        obtain ⟨y, hx10, h⟩ := of_obind h
        refine awp_seqJ (X := Int) [] [] (fun w => [(8, (I w))]) (fun w => []) (fun w => Sum.inr w = y) rfl rfl ?_ ?_
        · skip
          refine awp_seq ?_
          refine awp_go hmix ?_
          refine go_run' ttok 2 rfl ?_
          refine go_lenT encDf vv.defects ttok rfl rfl rfl rfl rfl rfl ?_
          refine go_run' ttok 1 rfl ?_
          refine go_nil nd ?_
          refine then_norm ?_
          refine awp_block ?_
          refine awp_loopD (X := (Int × Int)) (Y := ((Int × Bool) ⊕ Int)) [2, 10, 45, 46] [10] (fun q => [(8, (I q.1)), (47, (I q.2))]) (fun q => []) (fun q => worth_view__worth_s1 vv fine bv q.1 q.2) (pv.1, 0) [(10, some 10)] hx10 ⟨rfl, rfl, rfl, rfl, rfl, ⟨wkP_id _ rfl, wkP_id _ rfl, trivial⟩, trivial⟩ (fun x vR vz1 hz12 hk13 => ?_)
          obtain ⟨worth1, vv1⟩ := x
          change worth_view__worth_s1 vv fine bv worth1 vv1 = _ at hz12
          unfold worth_view__worth_s1 at hz12
          refine awp_seq ?_
          refine awp_go hmix ?_
          refine go_run' ttok 1 rfl ?_
          refine go_nil nd ?_
          refine then_norm ?_
          refine awp_seq ?_
          refine awp_cond (b := (decide (vv1 < ((vv.defects.length : Nat) : Int)))) rfl (fun c14 => ?_) (fun c14 => ?_)
          · replace hz12 := of_bif_t hz12 c14
            refine awp_skip ?_
            refine then_norm ?_
            refine awp_seq ?_
            refine awp_block ?_
            refine awp_seq ?_
            refine awp_go hmix ?_
            obtain ⟨e, hv15, hz12⟩ := of_obind hz12
            refine go_indexT encDf vv.defects vv1 e hv15 ttok rfl rfl rfl rfl rfl rfl rfl rfl rfl ?_
            refine go_run' ttok 3 rfl ?_
            refine go_nil nd ?_
            refine then_norm ?_
            refine awp_seq ?_
            refine awp_seq ?_
            refine awp_go hmix ?_
            refine go_run' ttok 2 rfl ?_
            refine go_call fn76 (defect_Touches_w e bv _ rfl) rfl rfl rfl rfl rfl rfl rfl ?_
            refine go_run' ttok 1 rfl ?_
            refine go_nil nd ?_
            refine then_norm ?_
            refine awp_cond (b := (!(defect_Touches_g e bv))) rfl (fun c16 => ?_) (fun c16 => ?_)
            · replace hz12 := of_bif_t hz12 c16
              refine awp_exit ?_
              refine then_exit ?_
              refine block_here ?_
              refine then_norm ?_
              refine awp_go hmix ?_
              refine go_run' ttok 2 rfl ?_
              refine go_nil nd ?_
              have e17 := of_some hz12
              subst e17
              refine then_norm ⟨rfl, (worth1, (W64 (vv1 + 1))), [(10, some 10)], ⟨rfl, rfl, rfl, rfl, rfl, ⟨wkP_id _ rfl, wkP_id _ rfl, trivial⟩, trivial⟩, hk13⟩
            · replace hz12 := of_bif_f hz12 c16
              refine awp_skip ?_
              refine then_norm ?_
              refine awp_seq ?_
              refine awp_seq ?_
              refine awp_go hmix ?_
              refine go_run' ttok 3 rfl ?_
              refine go_nil nd ?_
              refine then_norm ?_
              refine awp_cond (b := (e.k == 3)) rfl (fun c18 => ?_) (fun c18 => ?_)
              · replace hz12 := of_bif_t hz12 c18
                refine awp_seq ?_
                refine awp_go hmix ?_
                refine go_run' ttok 2 rfl ?_
                refine go_nil nd ?_
                refine then_norm ?_
                refine awp_ret ?_
                refine then_ret ?_
                refine block_ret ?_
                refine then_ret ?_
                obtain ⟨t, hn19, hq⟩ := of_mapr' hz12
                subst hq
                have hq : t = _ := hk13
                subst hq
                refine then_ret ?_
                refine block_ret ?_
                obtain ⟨t1, hn20, hq⟩ := of_mapl' hn19
                subst hq
                have hq := of_inl h
                replace hq := of_some hq
                subst hq
                refine then_ret ?_
                have e21 := of_some hn20
                subst e21
                refine ret_ret ?_
                refine fin0 ttok rfl rfl ?_
                exact wkP_refl _ rfl
              · replace hz12 := of_bif_f hz12 c18
                refine awp_skip ?_
                refine then_norm ?_
                refine awp_go hmix ?_
                refine go_run' ttok 4 rfl ?_
                refine go_nil nd ?_
                refine block_norm ?_
                refine then_norm ?_
                refine awp_go hmix ?_
                refine go_run' ttok 2 rfl ?_
                refine go_nil nd ?_
                have e22 := of_some hz12
                subst e22
                refine then_norm ⟨rfl, ((W64 (worth1 - fine)), (W64 (vv1 + 1))), [(10, some 10)], ⟨rfl, rfl, rfl, rfl, rfl, ⟨wkP_id _ rfl, wkP_id _ rfl, trivial⟩, trivial⟩, hk13⟩
          · replace hz12 := of_bif_f hz12 c14
            refine awp_exit ?_
            refine then_exit ?_
            obtain ⟨t2, hn23, hq⟩ := of_mapr' hz12
            subst hq
            have hq : t2 = _ := hk13
            subst hq
            refine then_exit ?_
            refine block_here ?_
            have e24 := of_some hn23
            refine then_norm ⟨rfl, worth1, [], ⟨rfl, rfl, rfl, rfl, rfl, ⟨wkP_id _ rfl, trivial⟩, trivial⟩, e24⟩
        · intro worth hw11
          subst hw11
          replace h := of_inr h
          refine awp_seq ?_
          refine awp_go hmix ?_
          refine go_run' ttok 4 rfl ?_
          refine go_nil nd ?_
          refine then_norm ?_
          refine awp_ret ?_
          have e25 := of_some h
          subst e25
          refine ret_ret ?_
          refine fin0 ttok rfl rfl ?_
          exact wkP_refl _ rfl
noncomputable def worth_view__worth_cs1 (N : Nat) (vv : Tworth_view) (fine : Int) (bv : Bx) (worth1 : Int) (vv1 : Int) : Option ((Int × Int) ⊕ ((Int × Bool) ⊕ Int)) :=
  (bif (decide (vv1 < ((vv.defects.length : Nat) : Int))) then (Option.bind (getI vv.defects vv1) (fun e => (bif (!(defect_Touches_g e bv)) then some (Sum.inl (worth1, (W64 (vv1 + 1)))) else (bif (e.k == 3) then some (Sum.inr (Sum.inl (0, false))) else some (Sum.inl ((W64 (worth1 - fine)), (W64 (vv1 + 1)))))))) else some (Sum.inr (Sum.inr worth1)))
theorem worth_view__worth_cs1_le (N : Nat) (vv : Tworth_view) (fine : Int) (bv : Bx) (worth1 : Int) (vv1 : Int) : OLe (worth_view__worth_cs1 N vv fine bv worth1 vv1) (worth_view__worth_s1 vv fine bv worth1 vv1) := by
  unfold worth_view__worth_cs1 worth_view__worth_s1
  repeat' (first | exact ole_rfl | exact product_Price_le _ _ _ | exact worth_worst_le _ _ _ | refine ole_bif ?_ ?_ | refine ole_bind ?_ (fun _ => ?_) | refine ole_let (fun _ => ?_) | refine ole_map ?_ | refine ole_elim (fun _ => ?_) (fun _ => ?_) | refine ole_loop (fun _ => ?_))
noncomputable def worth_view__worth_c (N : Nat) (vv : Tworth_view) (vz : Sp) (fine : Int) : Option (Int × Bool) :=
  (bif (!(worth_isWithin_g vz vv.length)) then some (0, false) else (Option.bind ((product_Price_c N) vv.product (W64 (vz.b - vz.a))) (fun pv => (bif (!pv.2) then some (0, false) else (Option.bind ((worth_worst_c N) vv.zones vz) (fun wv => (bif (decide (vv.product.Wane < wv)) then some (0, false) else (letB (worth_view__box_g vv vz) (fun bv => (Option.bind ((iterX N (fun q => worth_view__worth_cs1 N vv fine bv q.1 q.2) (pv.1, 0)) : Option ((Int × Bool) ⊕ Int)) (Sum.elim (fun q => some q) (fun worth => some ((max worth 0), true)))))))))))))
theorem worth_view__worth_le (N : Nat) (vv : Tworth_view) (vz : Sp) (fine : Int) : OLe (worth_view__worth_c N vv vz fine) (worth_view__worth_g vv vz fine) := by
  unfold worth_view__worth_c worth_view__worth_g
  repeat' (first | exact ole_rfl | exact product_Price_le _ _ _ | exact worth_worst_le _ _ _ | exact worth_view__worth_cs1_le _ _ _ _ _ _ | refine ole_bif ?_ ?_ | refine ole_bind ?_ (fun _ => ?_) | refine ole_let (fun _ => ?_) | refine ole_map ?_ | refine ole_elim (fun _ => ?_) (fun _ => ?_) | refine ole_loop (fun _ => ?_))

noncomputable def worth_Best_s2 (p : TProduct) (fine : Int) (lv : (Tworth_view × Bool)) (vat : Int) (most3 : Int) (found3 : Bool) (vv : Int) (best3 : Sp) : Option ((Int × Bool × Int × Sp) ⊕ (Int × Bool × Sp)) :=
  (bif (decide (vv < ((p.Lengths.length : Nat) : Int))) then (Option.bind (getI p.Lengths vv) (fun e => (Option.bind (worth_view__worth_g lv.1 (⟨vat, (W64 (vat + e))⟩ : Sp) fine) (fun wv => (bif wv.2 then (bif (!found3) then some (Sum.inl (wv.1, true, (W64 (vv + 1)), (⟨vat, (W64 (vat + e))⟩ : Sp))) else (bif (decide (most3 < wv.1)) then some (Sum.inl (wv.1, true, (W64 (vv + 1)), (⟨vat, (W64 (vat + e))⟩ : Sp))) else some (Sum.inl (most3, found3, (W64 (vv + 1)), best3)))) else some (Sum.inl (most3, found3, (W64 (vv + 1)), best3))))))) else some (Sum.inr (most3, found3, best3)))
noncomputable def worth_Best_s1 (p : TProduct) (step : Int) (fine : Int) (lv : (Tworth_view × Bool)) (most1 : Int) (found1 : Bool) (vat : Int) (best1 : Sp) : Option ((Int × Bool × Int × Sp) ⊕ (Int × Bool × Sp)) :=
  (bif (decide (vat < lv.1.length)) then (Option.bind ((loopO (fun q => worth_Best_s2 p fine lv vat q.1 q.2.1 q.2.2.1 q.2.2.2) (most1, found1, 0, best1)) : Option (Int × Bool × Sp)) (fun w2 => some (Sum.inl (w2.1, w2.2.1, (W64 (vat + step)), w2.2.2)))) else some (Sum.inr (most1, found1, best1)))
/-- sawmill/worth.Best -/
noncomputable def worth_Best_g (l : (List TSlice)) (d : (List Df)) (p : TProduct) (vr : TRect) (step : Int) (fine : Int) : Option (Sp × Int × Bool) :=
  (bif (!(worth_isStep_g step)) then some ((⟨0, 0⟩ : Sp), 0, false) else (bif (!(worth_isFine_g fine)) then some ((⟨0, 0⟩ : Sp), 0, false) else (Option.bind (worth_look_g l d p vr) (fun lv => (bif (!lv.2) then some ((⟨0, 0⟩ : Sp), 0, false) else (Option.bind ((loopO (fun q => worth_Best_s1 p step fine lv q.1 q.2.1 q.2.2.1 q.2.2.2) (0, false, 0, (⟨0, 0⟩ : Sp))) : Option (Int × Bool × Sp)) (fun w3 => some (w3.2.2, w3.1, w3.2.1))))))))
theorem worth_Best_w (l : (List TSlice)) (d : (List Df)) (p : TProduct) (vr : TRect) (step : Int) (fine : Int) (r : (Sp × Int × Bool)) (h : worth_Best_g l d p vr step fine = some r) : Holds Try.prog 43 [((encL encTSlice) l), ((encL encDf) d), (encTProduct p), (encTRect vr), (I step), (I fine)] [] (.tup [(encSp r.1), (I r.2.1), (B r.2.2)]) [] := by
  unfold worth_Best_g at h
  refine holds_fn Try.func43 rfl Try.ntmps43 rfl rfl rfl ?_
  refine awp_seq ?_
  refine awp_go hmix ?_
  refine go_run' ttok 5 rfl ?_
  refine go_nil nd ?_
  refine then_norm ?_
  refine awp_seq ?_
  refine awp_seq ?_
  refine awp_go hmix ?_
  refine go_run' ttok 1 rfl ?_
  refine go_call fn29 (worth_isStep_w step _ rfl) rfl rfl rfl rfl rfl rfl rfl ?_
  refine go_run' ttok 2 rfl ?_
  refine go_gcase rfl rfl rfl (fun g1 => ?_) (fun g1 => ?_)
  · rw [g1]
    replace h := of_bif_t h g1
    refine go_run' ttok 4 rfl ?_
    refine go_nil nd ?_
    refine then_norm ?_
    refine awp_cond rfl (fun tt0 => ?_) (fun h => by cases h)
    clear tt0
    refine awp_seq ?_
    refine awp_go hmix ?_
    refine go_run' ttok 4 rfl ?_
    refine go_nil nd ?_
    refine then_norm ?_
    refine awp_ret ?_
    refine then_ret ?_
    have e2 := of_some h
    subst e2
    refine ret_ret ?_
    refine fin0 ttok rfl rfl ?_
    exact wkP_refl _ rfl
  · rw [g1]
    replace h := of_bif_f h g1
    refine go_run' ttok 1 rfl ?_
    refine go_call fn30 (worth_isFine_w fine _ rfl) rfl rfl rfl rfl rfl rfl rfl ?_
    refine go_run' ttok 2 rfl ?_
    refine go_nil nd ?_
    refine then_norm ?_
    refine awp_cond (b := (!(worth_isFine_g fine))) rfl (fun c3 => ?_) (fun c3 => ?_)
    · replace h := of_bif_t h c3
      refine awp_seq ?_
      refine awp_go hmix ?_
      refine go_run' ttok 4 rfl ?_
      refine go_nil nd ?_
      refine then_norm ?_
      refine awp_ret ?_
      refine then_ret ?_
      have e4 := of_some h
      subst e4
      refine ret_ret ?_
      refine fin0 ttok rfl rfl ?_
      exact wkP_refl _ rfl
    · replace h := of_bif_f h c3
      refine awp_skip ?_
      refine then_norm ?_
      refine awp_seq ?_
      refine awp_go hmix ?_
      refine go_run' ttok 4 rfl ?_
      obtain ⟨lv, hv5, h⟩ := of_obind h
      refine go_call fn54 (worth_look_w l d p vr lv hv5) rfl rfl rfl rfl rfl rfl rfl ?_
      refine go_run' ttok 6 rfl ?_
      refine go_nil nd ?_
      refine then_norm ?_
      refine awp_seq ?_
      refine awp_seq ?_
      refine awp_go hmix ?_
      refine go_run' ttok 2 rfl ?_
      refine go_nil nd ?_
      refine then_norm ?_
      refine awp_cond (b := (!lv.2)) rfl (fun c6 => ?_) (fun c6 => ?_)
      · replace h := of_bif_t h c6
        refine awp_seq ?_
        refine awp_go hmix ?_
        refine go_run' ttok 4 rfl ?_
        refine go_nil nd ?_
        refine then_norm ?_
        refine awp_ret ?_
        refine then_ret ?_
        have e7 := of_some h
        subst e7
        refine ret_ret ?_
        refine fin0 ttok rfl rfl ?_
        exact wkP_refl _ rfl
      · replace h := of_bif_f h c6
        refine awp_skip ?_
        refine then_norm ?_
        refine awp_seq ?_
        refine awp_go hmix ?_
        refine go_run' ttok 1 rfl ?_
        refine go_nil nd ?_
        refine then_norm ?_
        refine awp_seq ?_
        refine awp_go hmix ?_
        refine go_run' ttok 2 rfl ?_
        refine go_nil nd ?_
        refine then_norm ?_
        obtain ⟨y, hx8, h⟩ := of_obind h
        refine awp_seqJ (X := (Int × Bool × Sp)) [12, 17] [12] (fun w => [(18, (I w.1)), (19, (B w.2.1))]) (fun w => [(17, some ⟨32, 2, [(.agg [(I w.2.2.a), (I w.2.2.b)])]⟩)]) (fun w => w = y) rfl rfl ?_ ?_
        · skip
          refine awp_seq ?_
          refine awp_go hmix ?_
          refine go_run' ttok 1 rfl ?_
          refine go_nil nd ?_
          refine then_norm ?_
          refine awp_block ?_
          refine awp_loopD (X := (Int × Bool × Int × Sp)) (Y := (Int × Bool × Sp)) [4, 5, 8, 12, 15, 17] [8, 12, 15] (fun q => [(18, (I q.1)), (19, (B q.2.1)), (20, (I q.2.2.1))]) (fun q => [(17, some ⟨32, 2, [(.agg [(I q.2.2.2.a), (I q.2.2.2.b)])]⟩)]) (fun q => worth_Best_s1 p step fine lv q.1 q.2.1 q.2.2.1 q.2.2.2) (0, false, 0, (⟨0, 0⟩ : Sp)) [(17, some 17), (8, some 8), (12, some 12), (15, some 15)] hx8 ⟨rfl, rfl, rfl, rfl, rfl, ⟨wkP_id _ rfl, wkP_id _ rfl, wkP_id _ rfl, trivial⟩, ⟨⟨_, rfl, rfl, rfl, .inl ⟨rfl, nr_one rfl⟩⟩, trivial⟩⟩ (fun x vR vz hz10 hk11 => ?_)
          obtain ⟨most1, found1, vat, best1⟩ := x
          change worth_Best_s1 p step fine lv most1 found1 vat best1 = _ at hz10
          unfold worth_Best_s1 at hz10
          refine awp_seq ?_
          refine awp_seq ?_
          refine awp_go hmix ?_
          refine go_run' ttok 4 rfl ?_
          refine go_nil nd ?_
          refine then_norm ?_
          refine awp_cond (b := (decide (vat < lv.1.length))) rfl (fun c12 => ?_) (fun c12 => ?_)
          · replace hz10 := of_bif_t hz10 c12
            refine awp_skip ?_
            refine then_norm ?_
            obtain ⟨y1, hx13, hz10⟩ := of_obind hz10
            refine awp_seqJ (X := (Int × Bool × Sp)) [4, 5, 8, 12, 15, 17, 20] [8, 12, 15] (fun w1 => [(18, (I w1.1)), (19, (B w1.2.1))]) (fun w1 => [(17, some ⟨32, 2, [(.agg [(I w1.2.2.a), (I w1.2.2.b)])]⟩)]) (fun w1 => w1 = y1) rfl rfl ?_ ?_
            · skip
              refine awp_block ?_
              refine awp_seq ?_
              refine awp_go hmix ?_
              refine go_run' ttok 2 rfl ?_
              refine go_lenT I p.Lengths ttok rfl rfl rfl rfl rfl rfl ?_
              refine go_run' ttok 1 rfl ?_
              refine go_nil nd ?_
              refine then_norm ?_
              refine awp_block ?_
              refine awp_loopD (X := (Int × Bool × Int × Sp)) (Y := (Int × Bool × Sp)) [4, 5, 8, 12, 15, 17, 20, 54, 55] [8, 12, 15] (fun q => [(18, (I q.1)), (19, (B q.2.1)), (56, (I q.2.2.1))]) (fun q => [(17, some ⟨32, 2, [(.agg [(I q.2.2.2.a), (I q.2.2.2.b)])]⟩)]) (fun q => worth_Best_s2 p fine lv vat q.1 q.2.1 q.2.2.1 q.2.2.2) (most1, found1, 0, best1) [(17, some 17), (8, some 8), (12, some 12), (15, some 15)] hx13 ⟨rfl, rfl, rfl, rfl, rfl, ⟨wkP_id _ rfl, wkP_id _ rfl, wkP_id _ rfl, trivial⟩, ⟨⟨_, rfl, rfl, rfl, .inl ⟨rfl, nr_one rfl⟩⟩, trivial⟩⟩ (fun x1 vR1 vz1 hz15 hk16 => ?_)
              obtain ⟨most3, found3, vv, best3⟩ := x1
              change worth_Best_s2 p fine lv vat most3 found3 vv best3 = _ at hz15
              unfold worth_Best_s2 at hz15
              refine awp_seq ?_
              refine awp_go hmix ?_
              refine go_run' ttok 1 rfl ?_
              refine go_nil nd ?_
              refine then_norm ?_
              refine awp_seq ?_
              refine awp_cond (b := (decide (vv < ((p.Lengths.length : Nat) : Int)))) rfl (fun c17 => ?_) (fun c17 => ?_)
              · replace hz15 := of_bif_t hz15 c17
                refine awp_skip ?_
                refine then_norm ?_
                refine awp_seq ?_
                refine awp_block ?_
                refine awp_seq ?_
                refine awp_go hmix ?_
                obtain ⟨e, hv18, hz15⟩ := of_obind hz15
                refine go_indexT I p.Lengths vv e hv18 ttok rfl rfl rfl rfl rfl rfl rfl rfl rfl ?_
                refine go_run' ttok 2 rfl ?_
                refine go_nil nd ?_
                refine then_norm ?_
                refine awp_seq ?_
                refine awp_go hmix ?_
                refine go_run' ttok 7 rfl ?_
                refine go_nil nd ?_
                refine then_norm ?_
                refine awp_seq ?_
                refine awp_go hmix ?_
                refine go_run' ttok 3 rfl ?_
                obtain ⟨wv, hv19, hz15⟩ := of_obind hz15
                refine go_call fn55 (worth_view__worth_w lv.1 (⟨vat, (W64 (vat + e))⟩ : Sp) fine wv hv19) rfl rfl rfl rfl rfl rfl rfl ?_
                refine go_run' ttok 5 rfl ?_
                refine go_nil nd ?_
                refine then_norm ?_
                refine awp_seq ?_
                refine awp_go hmix ?_
                refine go_run' ttok 2 rfl ?_
                refine go_gcase rfl rfl rfl (fun g20 => ?_) (fun g20 => ?_)
                · rw [g20]
                  replace hz15 := of_bif_t hz15 g20
                  refine go_run' ttok 3 rfl ?_
                  refine go_gcase rfl rfl rfl (fun g21 => ?_) (fun g21 => ?_)
                  · rw [g21]
                    replace hz15 := of_bif_t hz15 g21
                    refine go_run' ttok 5 rfl ?_
                    refine go_nil nd ?_
                    refine then_norm ?_
                    refine awp_cond rfl (fun tt0 => ?_) (fun h => by cases h)
                    clear tt0
                    refine awp_go hmix ?_
                    refine go_run' ttok 5 rfl ?_
                    refine go_nil nd ?_
                    refine block_norm ?_
                    refine then_norm ?_
                    refine awp_go hmix ?_
                    refine go_run' ttok 2 rfl ?_
                    refine go_nil nd ?_
                    have e22 := of_some hz15
                    subst e22
                    refine then_norm ⟨rfl, (wv.1, true, (W64 (vv + 1)), (⟨vat, (W64 (vat + e))⟩ : Sp)), [(17, some 17), (8, some 8), (12, some 12), (15, some 15)], ⟨rfl, rfl, rfl, rfl, rfl, ⟨wkP_id _ rfl, wkP_id _ rfl, wkP_id _ rfl, trivial⟩, ⟨⟨_, rfl, rfl, rfl, .inl ⟨rfl, nr_one rfl⟩⟩, trivial⟩⟩, hk16⟩
                  · rw [g21]
                    replace hz15 := of_bif_f hz15 g21
                    refine go_run' ttok 5 rfl ?_
                    refine go_nil nd ?_
                    refine then_norm ?_
                    refine awp_cond (b := (decide (most3 < wv.1))) rfl (fun c23 => ?_) (fun c23 => ?_)
                    · replace hz15 := of_bif_t hz15 c23
                      refine awp_go hmix ?_
                      refine go_run' ttok 5 rfl ?_
                      refine go_nil nd ?_
                      refine block_norm ?_
                      refine then_norm ?_
                      refine awp_go hmix ?_
                      refine go_run' ttok 2 rfl ?_
                      refine go_nil nd ?_
                      have e24 := of_some hz15
                      subst e24
                      refine then_norm ⟨rfl, (wv.1, true, (W64 (vv + 1)), (⟨vat, (W64 (vat + e))⟩ : Sp)), [(17, some 17), (8, some 8), (12, some 12), (15, some 15)], ⟨rfl, rfl, rfl, rfl, rfl, ⟨wkP_id _ rfl, wkP_id _ rfl, wkP_id _ rfl, trivial⟩, ⟨⟨_, rfl, rfl, rfl, .inl ⟨rfl, nr_one rfl⟩⟩, trivial⟩⟩, hk16⟩
                    · replace hz15 := of_bif_f hz15 c23
                      refine awp_skip ?_
                      refine block_norm ?_
                      refine then_norm ?_
                      refine awp_go hmix ?_
                      refine go_run' ttok 2 rfl ?_
                      refine go_nil nd ?_
                      have e25 := of_some hz15
                      subst e25
                      refine then_norm ⟨rfl, (most3, found3, (W64 (vv + 1)), best3), [(17, some 17), (8, some 8), (12, some 12), (15, some 15)], ⟨rfl, rfl, rfl, rfl, rfl, ⟨wkP_id _ rfl, wkP_id _ rfl, wkP_id _ rfl, trivial⟩, ⟨⟨_, rfl, rfl, rfl, .inl ⟨rfl, nr_one rfl⟩⟩, trivial⟩⟩, hk16⟩
                · rw [g20]
                  replace hz15 := of_bif_f hz15 g20
                  refine go_run' ttok 8 rfl ?_
                  refine go_nil nd ?_
                  refine then_norm ?_
                  refine awp_cond rfl (fun h => by cases h) (fun tt0 => ?_)
                  clear tt0
                  refine awp_skip ?_
                  refine block_norm ?_
                  refine then_norm ?_
                  refine awp_go hmix ?_
                  refine go_run' ttok 2 rfl ?_
                  refine go_nil nd ?_
                  have e26 := of_some hz15
                  subst e26
                  refine then_norm ⟨rfl, (most3, found3, (W64 (vv + 1)), best3), [(17, some 17), (8, some 8), (12, some 12), (15, some 15)], ⟨rfl, rfl, rfl, rfl, rfl, ⟨wkP_id _ rfl, wkP_id _ rfl, wkP_id _ rfl, trivial⟩, ⟨⟨_, rfl, rfl, rfl, .inl ⟨rfl, nr_one rfl⟩⟩, trivial⟩⟩, hk16⟩
              · replace hz15 := of_bif_f hz15 c17
                refine awp_exit ?_
                refine then_exit ?_
                obtain ⟨t, hn27, hq⟩ := of_mapr' hz15
                subst hq
                have hq : t = _ := hk16
                subst hq
                refine then_exit ?_
                refine block_here ?_
                refine block_norm ?_
                have e28 := of_some hn27
                refine then_norm ⟨rfl, (most3, found3, best3), [(17, some 17), (8, some 8), (12, some 12), (15, some 15)], ⟨rfl, rfl, rfl, rfl, rfl, ⟨wkP_id _ rfl, wkP_id _ rfl, trivial⟩, ⟨⟨_, rfl, rfl, rfl, .inl ⟨rfl, nr_one rfl⟩⟩, trivial⟩⟩, e28⟩
            · intro w1 hw14
              subst hw14
              obtain ⟨most2, found2, best2⟩ := w1
              refine awp_go hmix ?_
              refine go_run' ttok 4 rfl ?_
              refine go_nil nd ?_
              have e29 := of_some hz10
              subst e29
              refine then_norm ⟨rfl, (most2, found2, (W64 (vat + step)), best2), [(17, some 17), (8, some 8), (12, some 12), (15, some 15)], ⟨rfl, rfl, rfl, rfl, rfl, ⟨wkP_id _ rfl, wkP_id _ rfl, wkP_id _ rfl, trivial⟩, ⟨⟨_, rfl, rfl, rfl, .inl ⟨rfl, nr_one rfl⟩⟩, trivial⟩⟩, hk11⟩
          · replace hz10 := of_bif_f hz10 c12
            refine awp_exit ?_
            refine then_exit ?_
            obtain ⟨t1, hn30, hq⟩ := of_mapr' hz10
            subst hq
            have hq : t1 = _ := hk11
            subst hq
            refine then_exit ?_
            refine block_here ?_
            have e31 := of_some hn30
            refine then_norm ⟨rfl, (most1, found1, best1), [(17, some 17), (12, some 12)], ⟨rfl, rfl, rfl, rfl, rfl, ⟨wkP_id _ rfl, wkP_id _ rfl, trivial⟩, ⟨⟨_, rfl, rfl, rfl, .inl ⟨rfl, nr_one rfl⟩⟩, trivial⟩⟩, e31⟩
        · intro w hw9
          subst hw9
          obtain ⟨most, found, best⟩ := w
          refine awp_seq ?_
          refine awp_go hmix ?_
          refine go_run' ttok 6 rfl ?_
          refine go_nil nd ?_
          refine then_norm ?_
          refine awp_ret ?_
          have e32 := of_some h
          subst e32
          refine ret_ret ?_
          refine fin0 ttok rfl rfl ?_
          exact wkP_refl _ rfl
noncomputable def worth_Best_cs2 (N : Nat) (p : TProduct) (fine : Int) (lv : (Tworth_view × Bool)) (vat : Int) (most3 : Int) (found3 : Bool) (vv : Int) (best3 : Sp) : Option ((Int × Bool × Int × Sp) ⊕ (Int × Bool × Sp)) :=
  (bif (decide (vv < ((p.Lengths.length : Nat) : Int))) then (Option.bind (getI p.Lengths vv) (fun e => (Option.bind ((worth_view__worth_c N) lv.1 (⟨vat, (W64 (vat + e))⟩ : Sp) fine) (fun wv => (bif wv.2 then (bif (!found3) then some (Sum.inl (wv.1, true, (W64 (vv + 1)), (⟨vat, (W64 (vat + e))⟩ : Sp))) else (bif (decide (most3 < wv.1)) then some (Sum.inl (wv.1, true, (W64 (vv + 1)), (⟨vat, (W64 (vat + e))⟩ : Sp))) else some (Sum.inl (most3, found3, (W64 (vv + 1)), best3)))) else some (Sum.inl (most3, found3, (W64 (vv + 1)), best3))))))) else some (Sum.inr (most3, found3, best3)))
theorem worth_Best_cs2_le (N : Nat) (p : TProduct) (fine : Int) (lv : (Tworth_view × Bool)) (vat : Int) (most3 : Int) (found3 : Bool) (vv : Int) (best3 : Sp) : OLe (worth_Best_cs2 N p fine lv vat most3 found3 vv best3) (worth_Best_s2 p fine lv vat most3 found3 vv best3) := by
  unfold worth_Best_cs2 worth_Best_s2
  repeat' (first | exact ole_rfl | exact worth_look_le _ _ _ _ _ | exact worth_view__worth_le _ _ _ _ | refine ole_bif ?_ ?_ | refine ole_bind ?_ (fun _ => ?_) | refine ole_let (fun _ => ?_) | refine ole_map ?_ | refine ole_elim (fun _ => ?_) (fun _ => ?_) | refine ole_loop (fun _ => ?_))
noncomputable def worth_Best_cs1 (N : Nat) (p : TProduct) (step : Int) (fine : Int) (lv : (Tworth_view × Bool)) (most1 : Int) (found1 : Bool) (vat : Int) (best1 : Sp) : Option ((Int × Bool × Int × Sp) ⊕ (Int × Bool × Sp)) :=
  (bif (decide (vat < lv.1.length)) then (Option.bind ((iterX N (fun q => worth_Best_cs2 N p fine lv vat q.1 q.2.1 q.2.2.1 q.2.2.2) (most1, found1, 0, best1)) : Option (Int × Bool × Sp)) (fun w2 => some (Sum.inl (w2.1, w2.2.1, (W64 (vat + step)), w2.2.2)))) else some (Sum.inr (most1, found1, best1)))
theorem worth_Best_cs1_le (N : Nat) (p : TProduct) (step : Int) (fine : Int) (lv : (Tworth_view × Bool)) (most1 : Int) (found1 : Bool) (vat : Int) (best1 : Sp) : OLe (worth_Best_cs1 N p step fine lv most1 found1 vat best1) (worth_Best_s1 p step fine lv most1 found1 vat best1) := by
  unfold worth_Best_cs1 worth_Best_s1
  repeat' (first | exact ole_rfl | exact worth_look_le _ _ _ _ _ | exact worth_view__worth_le _ _ _ _ | exact worth_Best_cs2_le _ _ _ _ _ _ _ _ _ | refine ole_bif ?_ ?_ | refine ole_bind ?_ (fun _ => ?_) | refine ole_let (fun _ => ?_) | refine ole_map ?_ | refine ole_elim (fun _ => ?_) (fun _ => ?_) | refine ole_loop (fun _ => ?_))
noncomputable def worth_Best_c (N : Nat) (l : (List TSlice)) (d : (List Df)) (p : TProduct) (vr : TRect) (step : Int) (fine : Int) : Option (Sp × Int × Bool) :=
  (bif (!(worth_isStep_g step)) then some ((⟨0, 0⟩ : Sp), 0, false) else (bif (!(worth_isFine_g fine)) then some ((⟨0, 0⟩ : Sp), 0, false) else (Option.bind ((worth_look_c N) l d p vr) (fun lv => (bif (!lv.2) then some ((⟨0, 0⟩ : Sp), 0, false) else (Option.bind ((iterX N (fun q => worth_Best_cs1 N p step fine lv q.1 q.2.1 q.2.2.1 q.2.2.2) (0, false, 0, (⟨0, 0⟩ : Sp))) : Option (Int × Bool × Sp)) (fun w3 => some (w3.2.2, w3.1, w3.2.1))))))))
theorem worth_Best_le (N : Nat) (l : (List TSlice)) (d : (List Df)) (p : TProduct) (vr : TRect) (step : Int) (fine : Int) : OLe (worth_Best_c N l d p vr step fine) (worth_Best_g l d p vr step fine) := by
  unfold worth_Best_c worth_Best_g
  repeat' (first | exact ole_rfl | exact worth_look_le _ _ _ _ _ | exact worth_view__worth_le _ _ _ _ | exact worth_Best_cs2_le _ _ _ _ _ _ _ _ _ | exact worth_Best_cs1_le _ _ _ _ _ _ _ _ _ | refine ole_bif ?_ ?_ | refine ole_bind ?_ (fun _ => ?_) | refine ole_let (fun _ => ?_) | refine ole_map ?_ | refine ole_elim (fun _ => ?_) (fun _ => ?_) | refine ole_loop (fun _ => ?_))

/-- sawmill/sawmilllaw20.best -/
noncomputable def l20_best_g (g : Tsawmilllaw20_Given) (vr : TRect) (step : Int) : Option (Sp × Int × Bool) :=
  (Option.bind (worth_Best_g g.Solid g.Defects g.Product vr step g.Fine) (fun bv => some (bv.1, bv.2.1, bv.2.2)))
theorem l20_best_w (g : Tsawmilllaw20_Given) (vr : TRect) (step : Int) (r : (Sp × Int × Bool)) (h : l20_best_g g vr step = some r) : Holds Try.prog 22 [(encTsawmilllaw20_Given g), (encTRect vr), (I step)] [] (.tup [(encSp r.1), (I r.2.1), (B r.2.2)]) [] := by
  unfold l20_best_g at h
  refine holds_fn Try.func22 rfl Try.ntmps22 rfl rfl rfl ?_
  refine awp_seq ?_
  refine awp_go hmix ?_
  refine go_run' ttok 5 rfl ?_
  refine go_nil nd ?_
  refine then_norm ?_
  refine awp_seq ?_
  refine awp_go hmix ?_
  refine go_run' ttok 10 rfl ?_
  obtain ⟨bv, hv1, h⟩ := of_obind h
  refine go_call fn43 (worth_Best_w g.Solid g.Defects g.Product vr step g.Fine bv hv1) rfl rfl rfl rfl rfl rfl rfl ?_
  refine go_run' ttok 6 rfl ?_
  refine go_nil nd ?_
  refine then_norm ?_
  refine awp_ret ?_
  have e2 := of_some h
  subst e2
  refine ret_ret ?_
  refine fin0 ttok rfl rfl ?_
  exact wkP_refl _ rfl
noncomputable def l20_best_c (N : Nat) (g : Tsawmilllaw20_Given) (vr : TRect) (step : Int) : Option (Sp × Int × Bool) :=
  (Option.bind ((worth_Best_c N) g.Solid g.Defects g.Product vr step g.Fine) (fun bv => some (bv.1, bv.2.1, bv.2.2)))
theorem l20_best_le (N : Nat) (g : Tsawmilllaw20_Given) (vr : TRect) (step : Int) : OLe (l20_best_c N g vr step) (l20_best_g g vr step) := by
  unfold l20_best_c l20_best_g
  repeat' (first | exact ole_rfl | exact worth_Best_le _ _ _ _ _ _ _ | refine ole_bif ?_ ?_ | refine ole_bind ?_ (fun _ => ?_) | refine ole_let (fun _ => ?_) | refine ole_map ?_ | refine ole_elim (fun _ => ?_) (fun _ => ?_) | refine ole_loop (fun _ => ?_))

/-- sawmill/worth.Worth -/
noncomputable def worth_Worth_g (l : (List TSlice)) (d : (List Df)) (p : TProduct) (b : Bx) (fine : Int) : Option (Int × Bool) :=
  (bif (!(worth_isFine_g fine)) then some (0, false) else (Option.bind (worth_look_g l d p (⟨b.x, b.y⟩ : TRect)) (fun lv => (bif (!lv.2) then some (0, false) else (Option.bind (worth_view__worth_g lv.1 b.z fine) (fun wv => some (wv.1, wv.2)))))))
theorem worth_Worth_w (l : (List TSlice)) (d : (List Df)) (p : TProduct) (b : Bx) (fine : Int) (r : (Int × Bool)) (h : worth_Worth_g l d p b fine = some r) : Holds Try.prog 39 [((encL encTSlice) l), ((encL encDf) d), (encTProduct p), (encBx b), (I fine)] [] (.tup [(I r.1), (B r.2)]) [] := by
  unfold worth_Worth_g at h
  refine holds_fn Try.func39 rfl Try.ntmps39 rfl rfl rfl ?_
  refine awp_seq ?_
  refine awp_go hmix ?_
  refine go_run' ttok 4 rfl ?_
  refine go_nil nd ?_
  refine then_norm ?_
  refine awp_seq ?_
  refine awp_seq ?_
  refine awp_go hmix ?_
  refine go_run' ttok 1 rfl ?_
  refine go_call fn30 (worth_isFine_w fine _ rfl) rfl rfl rfl rfl rfl rfl rfl ?_
  refine go_run' ttok 1 rfl ?_
  refine go_nil nd ?_
  refine then_norm ?_
  refine awp_cond (b := (!(worth_isFine_g fine))) rfl (fun c1 => ?_) (fun c1 => ?_)
  · replace h := of_bif_t h c1
    refine awp_seq ?_
    refine awp_go hmix ?_
    refine go_run' ttok 2 rfl ?_
    refine go_nil nd ?_
    refine then_norm ?_
    refine awp_ret ?_
    refine then_ret ?_
    have e2 := of_some h
    subst e2
    refine ret_ret ?_
    refine fin0 ttok rfl rfl ?_
    exact wkP_refl _ rfl
  · replace h := of_bif_f h c1
    refine awp_skip ?_
    refine then_norm ?_
    refine awp_seq ?_
    refine awp_go hmix ?_
    refine go_run' ttok 8 rfl ?_
    obtain ⟨lv, hv3, h⟩ := of_obind h
    refine go_call fn54 (worth_look_w l d p (⟨b.x, b.y⟩ : TRect) lv hv3) rfl rfl rfl rfl rfl rfl rfl ?_
    refine go_run' ttok 6 rfl ?_
    refine go_nil nd ?_
    refine then_norm ?_
    refine awp_seq ?_
    refine awp_seq ?_
    refine awp_go hmix ?_
    refine go_run' ttok 2 rfl ?_
    refine go_nil nd ?_
    refine then_norm ?_
    refine awp_cond (b := (!lv.2)) rfl (fun c4 => ?_) (fun c4 => ?_)
    · replace h := of_bif_t h c4
      refine awp_seq ?_
      refine awp_go hmix ?_
      refine go_run' ttok 2 rfl ?_
      refine go_nil nd ?_
      refine then_norm ?_
      refine awp_ret ?_
      refine then_ret ?_
      have e5 := of_some h
      subst e5
      refine ret_ret ?_
      refine fin0 ttok rfl rfl ?_
      exact wkP_refl _ rfl
    · replace h := of_bif_f h c4
      refine awp_skip ?_
      refine then_norm ?_
      refine awp_seq ?_
      refine awp_go hmix ?_
      refine go_run' ttok 4 rfl ?_
      obtain ⟨wv, hv6, h⟩ := of_obind h
      refine go_call fn55 (worth_view__worth_w lv.1 b.z fine wv hv6) rfl rfl rfl rfl rfl rfl rfl ?_
      refine go_run' ttok 4 rfl ?_
      refine go_nil nd ?_
      refine then_norm ?_
      refine awp_ret ?_
      have e7 := of_some h
      subst e7
      refine ret_ret ?_
      refine fin0 ttok rfl rfl ?_
      exact wkP_refl _ rfl
noncomputable def worth_Worth_c (N : Nat) (l : (List TSlice)) (d : (List Df)) (p : TProduct) (b : Bx) (fine : Int) : Option (Int × Bool) :=
  (bif (!(worth_isFine_g fine)) then some (0, false) else (Option.bind ((worth_look_c N) l d p (⟨b.x, b.y⟩ : TRect)) (fun lv => (bif (!lv.2) then some (0, false) else (Option.bind ((worth_view__worth_c N) lv.1 b.z fine) (fun wv => some (wv.1, wv.2)))))))
theorem worth_Worth_le (N : Nat) (l : (List TSlice)) (d : (List Df)) (p : TProduct) (b : Bx) (fine : Int) : OLe (worth_Worth_c N l d p b fine) (worth_Worth_g l d p b fine) := by
  unfold worth_Worth_c worth_Worth_g
  repeat' (first | exact ole_rfl | exact worth_look_le _ _ _ _ _ | exact worth_view__worth_le _ _ _ _ | refine ole_bif ?_ ?_ | refine ole_bind ?_ (fun _ => ?_) | refine ole_let (fun _ => ?_) | refine ole_map ?_ | refine ole_elim (fun _ => ?_) (fun _ => ?_) | refine ole_loop (fun _ => ?_))

/-- sawmill/sawmilllaw20.of -/
noncomputable def l20_of_g (g : Tsawmilllaw20_Given) (b : Bx) : Option (Int × Bool) :=
  (Option.bind (worth_Worth_g g.Solid g.Defects g.Product b g.Fine) (fun wv => some (wv.1, wv.2)))
theorem l20_of_w (g : Tsawmilllaw20_Given) (b : Bx) (r : (Int × Bool)) (h : l20_of_g g b = some r) : Holds Try.prog 17 [(encTsawmilllaw20_Given g), (encBx b)] [] (.tup [(I r.1), (B r.2)]) [] := by
  unfold l20_of_g at h
  refine holds_fn Try.func17 rfl Try.ntmps17 rfl rfl rfl ?_
  refine awp_seq ?_
  refine awp_go hmix ?_
  refine go_run' ttok 4 rfl ?_
  refine go_nil nd ?_
  refine then_norm ?_
  refine awp_seq ?_
  refine awp_go hmix ?_
  refine go_run' ttok 9 rfl ?_
  obtain ⟨wv, hv1, h⟩ := of_obind h
  refine go_call fn39 (worth_Worth_w g.Solid g.Defects g.Product b g.Fine wv hv1) rfl rfl rfl rfl rfl rfl rfl ?_
  refine go_run' ttok 4 rfl ?_
  refine go_nil nd ?_
  refine then_norm ?_
  refine awp_ret ?_
  have e2 := of_some h
  subst e2
  refine ret_ret ?_
  refine fin0 ttok rfl rfl ?_
  exact wkP_refl _ rfl
noncomputable def l20_of_c (N : Nat) (g : Tsawmilllaw20_Given) (b : Bx) : Option (Int × Bool) :=
  (Option.bind ((worth_Worth_c N) g.Solid g.Defects g.Product b g.Fine) (fun wv => some (wv.1, wv.2)))
theorem l20_of_le (N : Nat) (g : Tsawmilllaw20_Given) (b : Bx) : OLe (l20_of_c N g b) (l20_of_g g b) := by
  unfold l20_of_c l20_of_g
  repeat' (first | exact ole_rfl | exact worth_Worth_le _ _ _ _ _ _ | refine ole_bif ?_ ?_ | refine ole_bind ?_ (fun _ => ?_) | refine ole_let (fun _ => ?_) | refine ole_map ?_ | refine ole_elim (fun _ => ?_) (fun _ => ?_) | refine ole_loop (fun _ => ?_))

/-- sawmill/worth.Wane -/
noncomputable def worth_Wane_g (l : (List TSlice)) (b : Bx) : Option Int :=
  (Option.bind (solid_Check_g l) (fun cv => (bif (cv != 0) then some 1000 else (Option.bind (worth_isRect_g (⟨b.x, b.y⟩ : TRect)) (fun iv => (bif (!iv) then some 1000 else (Option.bind (solid_Length_g l) (fun lv => (bif (!(worth_isWithin_g b.z lv)) then some 1000 else (Option.bind (worth_lacks_g l (⟨b.x, b.y⟩ : TRect)) (fun lv1 => (Option.bind (worth_worst_g lv1 b.z) (fun wv => some wv)))))))))))))
theorem worth_Wane_w (l : (List TSlice)) (b : Bx) (r : Int) (h : worth_Wane_g l b = some r) : Holds Try.prog 15 [((encL encTSlice) l), (encBx b)] [] (I r) [] := by
  unfold worth_Wane_g at h
  refine holds_fn Try.func15 rfl Try.ntmps15 rfl rfl rfl ?_
  refine awp_seq ?_
  refine awp_go hmix ?_
  refine go_run' ttok 2 rfl ?_
  refine go_nil nd ?_
  refine then_norm ?_
  refine awp_seq ?_
  refine awp_go hmix ?_
  refine go_run' ttok 7 rfl ?_
  refine go_nil nd ?_
  refine then_norm ?_
  refine awp_seq ?_
  refine awp_seq ?_
  refine awp_go hmix ?_
  refine go_run' ttok 1 rfl ?_
  obtain ⟨cv, hv1, h⟩ := of_obind h
  refine go_call fn25 (solid_Check_w l cv hv1) rfl rfl rfl rfl rfl rfl rfl ?_
  refine go_run' ttok 2 rfl ?_
  refine go_gcase rfl rfl rfl (fun g2 => ?_) (fun g2 => ?_)
  · rw [g2]
    replace h := of_bif_t h g2
    refine go_run' ttok 12 rfl ?_
    refine go_nil (fun _ => by kernel_rfl) ?_
    refine then_norm ?_
    refine awp_cond rfl (fun tt0 => ?_) (fun h => by cases h)
    clear tt0
    refine awp_seq ?_
    refine awp_go hmix ?_
    refine go_run' ttok 1 rfl ?_
    refine go_nil nd ?_
    refine then_norm ?_
    refine awp_ret ?_
    refine then_ret ?_
    have e3 := of_some h
    subst e3
    refine ret_ret ?_
    refine fin0 ttok rfl rfl ?_
    exact (wkP_refl _ rfl)
  · rw [g2]
    replace h := of_bif_f h g2
    refine go_run' ttok 1 rfl ?_
    obtain ⟨iv, hv4, h⟩ := of_obind h
    refine go_call fn33 (worth_isRect_w (⟨b.x, b.y⟩ : TRect) iv hv4) rfl rfl rfl rfl rfl rfl rfl ?_
    refine go_run' ttok 3 rfl ?_
    refine go_gcase rfl rfl rfl (fun g5 => ?_) (fun g5 => ?_)
    · rw [g5]
      replace h := of_bif_t h g5
      refine go_run' ttok 7 rfl ?_
      refine go_nil (fun _ => by kernel_rfl) ?_
      refine then_norm ?_
      refine awp_cond rfl (fun tt0 => ?_) (fun h => by cases h)
      clear tt0
      refine awp_seq ?_
      refine awp_go hmix ?_
      refine go_run' ttok 1 rfl ?_
      refine go_nil nd ?_
      refine then_norm ?_
      refine awp_ret ?_
      refine then_ret ?_
      have e6 := of_some h
      subst e6
      refine ret_ret ?_
      refine fin0 ttok rfl rfl ?_
      exact (wkP_refl _ rfl)
    · rw [g5]
      replace h := of_bif_f h g5
      refine go_run' ttok 3 rfl ?_
      obtain ⟨lv, hv7, h⟩ := of_obind h
      refine go_call fn27 (solid_Length_w l lv hv7) rfl rfl rfl rfl rfl rfl rfl ?_
      refine go_call fn34 (worth_isWithin_w b.z lv _ rfl) rfl rfl rfl rfl rfl rfl rfl ?_
      refine go_run' ttok 2 rfl ?_
      refine go_nil (fun _ => by kernel_rfl) ?_
      refine then_norm ?_
      refine awp_cond (b := (!(worth_isWithin_g b.z lv))) rfl (fun c8 => ?_) (fun c8 => ?_)
      · replace h := of_bif_t h c8
        refine awp_seq ?_
        refine awp_go hmix ?_
        refine go_run' ttok 1 rfl ?_
        refine go_nil nd ?_
        refine then_norm ?_
        refine awp_ret ?_
        refine then_ret ?_
        have e9 := of_some h
        subst e9
        refine ret_ret ?_
        refine fin0 ttok rfl rfl ?_
        exact (wkP_refl _ rfl)
      · replace h := of_bif_f h c8
        refine awp_skip ?_
        refine then_norm ?_
        refine awp_seq ?_
        refine awp_go hmix ?_
        refine go_run' ttok 2 rfl ?_
        obtain ⟨lv1, hv10, h⟩ := of_obind h
        refine go_call fn36 (worth_lacks_w l (⟨b.x, b.y⟩ : TRect) lv1 hv10) rfl rfl rfl rfl rfl rfl rfl ?_
        refine go_run' ttok 2 rfl ?_
        obtain ⟨wv, hv11, h⟩ := of_obind h
        refine go_call fn35 (worth_worst_w lv1 b.z wv hv11) rfl rfl rfl rfl rfl rfl rfl ?_
        refine go_run' ttok 1 rfl ?_
        refine go_nil (fun _ => by kernel_rfl) ?_
        refine then_norm ?_
        refine awp_ret ?_
        have e12 := of_some h
        subst e12
        refine ret_ret ?_
        refine fin0 ttok rfl rfl ?_
        exact (wkP_refl _ rfl)
noncomputable def worth_Wane_c (N : Nat) (l : (List TSlice)) (b : Bx) : Option Int :=
  (Option.bind ((solid_Check_c N) l) (fun cv => (bif (cv != 0) then some 1000 else (Option.bind ((worth_isRect_c N) (⟨b.x, b.y⟩ : TRect)) (fun iv => (bif (!iv) then some 1000 else (Option.bind ((solid_Length_c N) l) (fun lv => (bif (!(worth_isWithin_g b.z lv)) then some 1000 else (Option.bind ((worth_lacks_c N) l (⟨b.x, b.y⟩ : TRect)) (fun lv1 => (Option.bind ((worth_worst_c N) lv1 b.z) (fun wv => some wv)))))))))))))
theorem worth_Wane_le (N : Nat) (l : (List TSlice)) (b : Bx) : OLe (worth_Wane_c N l b) (worth_Wane_g l b) := by
  unfold worth_Wane_c worth_Wane_g
  repeat' (first | exact ole_rfl | exact solid_Check_le _ _ | exact worth_isRect_le _ _ | exact solid_Length_le _ _ | exact worth_lacks_le _ _ _ | exact worth_worst_le _ _ _ | refine ole_bif ?_ ?_ | refine ole_bind ?_ (fun _ => ?_) | refine ole_let (fun _ => ?_) | refine ole_map ?_ | refine ole_elim (fun _ => ?_) (fun _ => ?_) | refine ole_loop (fun _ => ?_))

/-- sawmill/worth.Accept -/
noncomputable def worth_Accept_g (l : (List TSlice)) (d : (List Df)) (p : TProduct) (b : Bx) : Option Bool :=
  (Option.bind (worth_Worth_g l d p b 0) (fun wv => some wv.2))
theorem worth_Accept_w (l : (List TSlice)) (d : (List Df)) (p : TProduct) (b : Bx) (r : Bool) (h : worth_Accept_g l d p b = some r) : Holds Try.prog 19 [((encL encTSlice) l), ((encL encDf) d), (encTProduct p), (encBx b)] [] (B r) [] := by
  unfold worth_Accept_g at h
  refine holds_fn Try.func19 rfl Try.ntmps19 rfl rfl rfl ?_
  refine awp_seq ?_
  refine awp_go hmix ?_
  refine go_run' ttok 3 rfl ?_
  refine go_nil nd ?_
  refine then_norm ?_
  refine awp_seq ?_
  refine awp_go hmix ?_
  refine go_run' ttok 4 rfl ?_
  obtain ⟨wv, hv1, h⟩ := of_obind h
  refine go_call fn39 (worth_Worth_w l d p b 0 wv hv1) rfl rfl rfl rfl rfl rfl rfl ?_
  refine go_run' ttok 5 rfl ?_
  refine go_nil nd ?_
  refine then_norm ?_
  refine awp_seq ?_
  refine awp_go hmix ?_
  refine go_run' ttok 2 rfl ?_
  refine go_nil nd ?_
  refine then_norm ?_
  refine awp_ret ?_
  have e2 := of_some h
  subst e2
  refine ret_ret ?_
  refine fin0 ttok rfl rfl ?_
  exact (wkP_refl _ rfl)
noncomputable def worth_Accept_c (N : Nat) (l : (List TSlice)) (d : (List Df)) (p : TProduct) (b : Bx) : Option Bool :=
  (Option.bind ((worth_Worth_c N) l d p b 0) (fun wv => some wv.2))
theorem worth_Accept_le (N : Nat) (l : (List TSlice)) (d : (List Df)) (p : TProduct) (b : Bx) : OLe (worth_Accept_c N l d p b) (worth_Accept_g l d p b) := by
  unfold worth_Accept_c worth_Accept_g
  repeat' (first | exact ole_rfl | exact worth_Worth_le _ _ _ _ _ _ | refine ole_bif ?_ ?_ | refine ole_bind ?_ (fun _ => ?_) | refine ole_let (fun _ => ?_) | refine ole_map ?_ | refine ole_elim (fun _ => ?_) (fun _ => ?_) | refine ole_loop (fun _ => ?_))

/-- sawmill/sawmilllaw20.awake -/
noncomputable def l20_awake_g : Option Bool :=
  (Option.bind l20_sample_g (fun sv => (Option.bind (l20_best_g sv (⟨(⟨(-50), 55⟩ : Sp), (⟨0, 42⟩ : Sp)⟩ : TRect) 500) (fun bv => (Option.bind (l20_best_g (⟨sv.Solid, [(⟨1, (⟨(⟨50, 60⟩ : Sp), (⟨0, 20⟩ : Sp), (⟨0, 30⟩ : Sp)⟩ : Bx)⟩ : Df)], sv.Product, sv.Fine⟩ : Tsawmilllaw20_Given) (⟨(⟨(-50), 55⟩ : Sp), (⟨0, 42⟩ : Sp)⟩ : TRect) 500) (fun bv1 => (Option.bind (l20_of_g (⟨sv.Solid, [(⟨1, (⟨(⟨50, 60⟩ : Sp), (⟨0, 20⟩ : Sp), (⟨0, 30⟩ : Sp)⟩ : Bx)⟩ : Df)], sv.Product, sv.Fine⟩ : Tsawmilllaw20_Given) (⟨(⟨(-50), 55⟩ : Sp), (⟨0, 42⟩ : Sp), (⟨0, 2500⟩ : Sp)⟩ : Bx)) (fun ov => (Option.bind (worth_Wane_g sv.Solid (⟨(⟨0, 105⟩ : Sp), (⟨70, 112⟩ : Sp), (⟨0, 2000⟩ : Sp)⟩ : Bx)) (fun wv => (Option.bind (getI ([(⟨1, (⟨(⟨50, 60⟩ : Sp), (⟨0, 20⟩ : Sp), (⟨0, 30⟩ : Sp)⟩ : Bx)⟩ : Df)]) 0) (fun e => (Option.bind (worth_Accept_g sv.Solid (setI ([(⟨1, (⟨(⟨50, 60⟩ : Sp), (⟨0, 20⟩ : Sp), (⟨0, 30⟩ : Sp)⟩ : Bx)⟩ : Df)]) 0 (⟨3, (⟨(⟨0, 10⟩ : Sp), (⟨0, 10⟩ : Sp), (⟨2700, 2800⟩ : Sp)⟩ : Bx)⟩ : Df)) sv.Product (⟨(⟨(-50), 55⟩ : Sp), (⟨0, 42⟩ : Sp), (⟨500, 3000⟩ : Sp)⟩ : Bx)) (fun av => (bif (eqV encSp bv.1 (⟨0, 2500⟩ : Sp)) then (bif (bv.2.1 == 90) then (bif bv.2.2 then (bif (eqV encSp bv1.1 (⟨500, 3000⟩ : Sp)) then (bif (bv1.2.1 == 90) then (bif bv1.2.2 then (bif (ov.1 == 80) then (bif ov.2 then (bif (wv == 320) then (bif (!av) then some ((worth_Check_g (⟨0, 0, 0, 0⟩ : TSaw) (⟨0, 0, 0⟩ : TRates)) == 9) else some false) else some false) else some false) else some false) else some false) else some false) else some false) else some false) else some false) else some false)))))))))))))))
theorem l20_awake_w (r : Bool) (h : l20_awake_g = some r) : Holds Try.prog 13 [] [] (B r) [] := by
  unfold l20_awake_g at h
  refine holds_fn Try.func13 rfl Try.ntmps13 rfl rfl rfl ?_
  refine awp_seq ?_
  refine awp_go hmix ?_
  refine go_run' ttok 1 rfl ?_
  refine go_nil nd ?_
  refine then_norm ?_
  refine awp_seq ?_
  refine awp_go hmix ?_
  obtain ⟨sv, hv1, h⟩ := of_obind h
  refine go_call fn32 (l20_sample_w sv hv1) rfl rfl rfl rfl rfl rfl rfl ?_
  refine go_run' ttok 2 rfl ?_
  refine go_nil nd ?_
  refine then_norm ?_
  refine awp_seq ?_
  refine awp_go hmix ?_
  refine go_run' ttok 5 rfl ?_
  refine go_nil nd ?_
  refine then_norm ?_
  refine awp_seq ?_
  refine awp_go hmix ?_
  refine go_run' ttok 2 rfl ?_
  obtain ⟨bv, hv2, h⟩ := of_obind h
  refine go_call fn22 (l20_best_w sv (⟨(⟨(-50), 55⟩ : Sp), (⟨0, 42⟩ : Sp)⟩ : TRect) 500 bv hv2) rfl rfl rfl rfl rfl rfl rfl ?_
  refine go_run' ttok 8 rfl ?_
  refine go_nil nd ?_
  refine then_norm ?_
  refine awp_seq ?_
  refine awp_go hmix ?_
  refine go_run' ttok 8 rfl ?_
  refine go_nil nd ?_
  refine then_norm ?_
  refine awp_seq ?_
  refine awp_go hmix ?_
  refine go_run' ttok 2 rfl ?_
  obtain ⟨bv1, hv3, h⟩ := of_obind h
  refine go_callL (L := [(29, some ⟨61, 7, ([(⟨1, (⟨(⟨50, 60⟩ : Sp), (⟨0, 20⟩ : Sp), (⟨0, 30⟩ : Sp)⟩ : Bx)⟩ : Df)]).map encDf⟩)]) fn22 (l20_best_w (⟨sv.Solid, [(⟨1, (⟨(⟨50, 60⟩ : Sp), (⟨0, 20⟩ : Sp), (⟨0, 30⟩ : Sp)⟩ : Bx)⟩ : Df)], sv.Product, sv.Fine⟩ : Tsawmilllaw20_Given) (⟨(⟨(-50), 55⟩ : Sp), (⟨0, 42⟩ : Sp)⟩ : TRect) 500 bv1 hv3) rfl rfl rfl ⟨rfl, List.not_mem_nil, trivial⟩ ⟨⟨(wkP_refl _ rfl), (wkP_lend rfl (by first | rfl | simp [setI]) (fun _ => rfl)), (wkP_refl _ rfl), (wkP_refl _ rfl), (wkP_refl _ rfl), (wkP_refl _ rfl), (wkP_refl _ rfl), (wkP_refl _ rfl), (wkP_refl _ rfl), (wkP_refl _ rfl), trivial⟩, (wkP_refl _ rfl), (wkP_refl _ rfl), trivial⟩ rfl rfl (fun _ => rfl) rfl ?_
  refine go_run' ttok 8 rfl ?_
  refine go_nil nd ?_
  refine then_norm ?_
  refine awp_seq ?_
  refine awp_go hmix ?_
  refine go_run' ttok 7 rfl ?_
  obtain ⟨ov, hv4, h⟩ := of_obind h
  refine go_callL (L := [(29, some ⟨61, 7, ([(⟨1, (⟨(⟨50, 60⟩ : Sp), (⟨0, 20⟩ : Sp), (⟨0, 30⟩ : Sp)⟩ : Bx)⟩ : Df)]).map encDf⟩)]) fn17 (l20_of_w (⟨sv.Solid, [(⟨1, (⟨(⟨50, 60⟩ : Sp), (⟨0, 20⟩ : Sp), (⟨0, 30⟩ : Sp)⟩ : Bx)⟩ : Df)], sv.Product, sv.Fine⟩ : Tsawmilllaw20_Given) (⟨(⟨(-50), 55⟩ : Sp), (⟨0, 42⟩ : Sp), (⟨0, 2500⟩ : Sp)⟩ : Bx) ov hv4) rfl rfl rfl ⟨rfl, List.not_mem_nil, trivial⟩ ⟨⟨(wkP_refl _ rfl), (wkP_lend rfl (by first | rfl | simp [setI]) (fun _ => rfl)), (wkP_refl _ rfl), (wkP_refl _ rfl), (wkP_refl _ rfl), (wkP_refl _ rfl), (wkP_refl _ rfl), (wkP_refl _ rfl), (wkP_refl _ rfl), (wkP_refl _ rfl), trivial⟩, (wkP_refl _ rfl), trivial⟩ rfl rfl (fun _ => rfl) rfl ?_
  refine go_run' ttok 5 rfl ?_
  refine go_nil nd ?_
  refine then_norm ?_
  refine awp_seq ?_
  refine awp_go hmix ?_
  refine go_run' ttok 6 rfl ?_
  obtain ⟨wv, hv5, h⟩ := of_obind h
  refine go_call fn15 (worth_Wane_w sv.Solid (⟨(⟨0, 105⟩ : Sp), (⟨70, 112⟩ : Sp), (⟨0, 2000⟩ : Sp)⟩ : Bx) wv hv5) rfl rfl rfl rfl rfl rfl rfl ?_
  refine go_run' ttok 1 rfl ?_
  refine go_nil nd ?_
  refine then_norm ?_
  refine awp_seq ?_
  refine awp_go hmix ?_
  refine go_run' ttok 7 rfl ?_
  obtain ⟨e, hv6, h⟩ := of_obind h
  refine go_indexAT encDf ([(⟨1, (⟨(⟨50, 60⟩ : Sp), (⟨0, 20⟩ : Sp), (⟨0, 30⟩ : Sp)⟩ : Bx)⟩ : Df)]) 0 e hv6 (by first | rfl | simp [setI]) ttok rfl rfl rfl rfl rfl rfl rfl rfl rfl rfl ?_
  refine go_storeT encDf ([(⟨1, (⟨(⟨50, 60⟩ : Sp), (⟨0, 20⟩ : Sp), (⟨0, 30⟩ : Sp)⟩ : Bx)⟩ : Df)]) 0 e (⟨3, (⟨(⟨0, 10⟩ : Sp), (⟨0, 10⟩ : Sp), (⟨2700, 2800⟩ : Sp)⟩ : Bx)⟩ : Df) hv6 ttok rfl rfl rfl rfl rfl rfl rfl rfl rfl rfl rfl rfl ?_
  refine go_nil nd ?_
  refine then_norm ?_
  refine awp_seq ?_
  refine awp_go hmix ?_
  refine go_run' ttok 12 rfl ?_
  obtain ⟨av, hv7, h⟩ := of_obind h
  refine go_callL (L := [(29, some ⟨61, 7, (setI ([(⟨1, (⟨(⟨50, 60⟩ : Sp), (⟨0, 20⟩ : Sp), (⟨0, 30⟩ : Sp)⟩ : Bx)⟩ : Df)]) 0 (⟨3, (⟨(⟨0, 10⟩ : Sp), (⟨0, 10⟩ : Sp), (⟨2700, 2800⟩ : Sp)⟩ : Bx)⟩ : Df)).map encDf⟩)]) fn19 (worth_Accept_w sv.Solid (setI ([(⟨1, (⟨(⟨50, 60⟩ : Sp), (⟨0, 20⟩ : Sp), (⟨0, 30⟩ : Sp)⟩ : Bx)⟩ : Df)]) 0 (⟨3, (⟨(⟨0, 10⟩ : Sp), (⟨0, 10⟩ : Sp), (⟨2700, 2800⟩ : Sp)⟩ : Bx)⟩ : Df)) sv.Product (⟨(⟨(-50), 55⟩ : Sp), (⟨0, 42⟩ : Sp), (⟨500, 3000⟩ : Sp)⟩ : Bx) av hv7) rfl rfl rfl ⟨rfl, List.not_mem_nil, trivial⟩ ⟨(wkP_refl _ rfl), (wkP_lend rfl (by first | rfl | simp [setI]) (fun _ => rfl)), (wkP_refl _ rfl), (wkP_refl _ rfl), trivial⟩ rfl rfl (fun _ => rfl) rfl ?_
  refine go_run' ttok 1 rfl ?_
  refine go_nil nd ?_
  refine then_norm ?_
  refine awp_seq ?_
  refine awp_go hmix ?_
  refine go_run' ttok 2 rfl ?_
  refine go_step rfl (as_eqAgg shSp rfl eqT32_1 eqT32_2 (by decide) rfl rfl rfl rfl rfl) rfl rfl rfl ?_
  refine go_run' ttok 1 rfl ?_
  refine go_gcase rfl rfl rfl (fun g8 => ?_) (fun g8 => ?_)
  · rw [g8]
    replace h := of_bif_t h g8
    refine go_run' ttok 4 rfl ?_
    refine go_gcase rfl rfl rfl (fun g9 => ?_) (fun g9 => ?_)
    · rw [g9]
      replace h := of_bif_t h g9
      refine go_run' ttok 3 rfl ?_
      refine go_gcase rfl rfl rfl (fun g10 => ?_) (fun g10 => ?_)
      · rw [g10]
        replace h := of_bif_t h g10
        refine go_run' ttok 2 rfl ?_
        refine go_step rfl (as_eqAgg shSp rfl eqT32_1 eqT32_2 (by decide) rfl rfl rfl rfl rfl) rfl rfl rfl ?_
        refine go_run' ttok 2 rfl ?_
        refine go_gcase rfl rfl rfl (fun g11 => ?_) (fun g11 => ?_)
        · rw [g11]
          replace h := of_bif_t h g11
          refine go_run' ttok 4 rfl ?_
          refine go_gcase rfl rfl rfl (fun g12 => ?_) (fun g12 => ?_)
          · rw [g12]
            replace h := of_bif_t h g12
            refine go_run' ttok 3 rfl ?_
            refine go_gcase rfl rfl rfl (fun g13 => ?_) (fun g13 => ?_)
            · rw [g13]
              replace h := of_bif_t h g13
              refine go_run' ttok 4 rfl ?_
              refine go_gcase rfl rfl rfl (fun g14 => ?_) (fun g14 => ?_)
              · rw [g14]
                replace h := of_bif_t h g14
                refine go_run' ttok 3 rfl ?_
                refine go_gcase rfl rfl rfl (fun g15 => ?_) (fun g15 => ?_)
                · rw [g15]
                  replace h := of_bif_t h g15
                  refine go_run' ttok 4 rfl ?_
                  refine go_gcase rfl rfl rfl (fun g16 => ?_) (fun g16 => ?_)
                  · rw [g16]
                    replace h := of_bif_t h g16
                    refine go_run' ttok 4 rfl ?_
                    refine go_gcase rfl rfl rfl (fun g17 => ?_) (fun g17 => ?_)
                    · rw [g17]
                      replace h := of_bif_t h g17
                      refine go_run' ttok 2 rfl ?_
                      refine go_call fn11 (worth_Check_w (⟨0, 0, 0, 0⟩ : TSaw) (⟨0, 0, 0⟩ : TRates) _ rfl) rfl rfl rfl rfl rfl rfl rfl ?_
                      refine go_run' ttok 3 rfl ?_
                      refine go_nil nd ?_
                      refine then_norm ?_
                      refine awp_ret ?_
                      have e18 := of_some h
                      subst e18
                      refine ret_ret ?_
                      refine fin0 ttok rfl rfl ?_
                      exact (wkP_refl _ rfl)
                    · rw [g17]
                      replace h := of_bif_f h g17
                      refine go_run' ttok 6 rfl ?_
                      refine go_nil nd ?_
                      refine then_norm ?_
                      refine awp_ret ?_
                      have e19 := of_some h
                      subst e19
                      refine ret_ret ?_
                      refine fin0 ttok rfl rfl ?_
                      exact (wkP_refl _ rfl)
                  · rw [g16]
                    replace h := of_bif_f h g16
                    refine go_run' ttok 10 rfl ?_
                    refine go_nil nd ?_
                    refine then_norm ?_
                    refine awp_ret ?_
                    have e20 := of_some h
                    subst e20
                    refine ret_ret ?_
                    refine fin0 ttok rfl rfl ?_
                    exact (wkP_refl _ rfl)
                · rw [g15]
                  replace h := of_bif_f h g15
                  refine go_run' ttok 14 rfl ?_
                  refine go_nil nd ?_
                  refine then_norm ?_
                  refine awp_ret ?_
                  have e21 := of_some h
                  subst e21
                  refine ret_ret ?_
                  refine fin0 ttok rfl rfl ?_
                  exact (wkP_refl _ rfl)
              · rw [g14]
                replace h := of_bif_f h g14
                refine go_run' ttok 17 rfl ?_
                refine go_nil nd ?_
                refine then_norm ?_
                refine awp_ret ?_
                have e22 := of_some h
                subst e22
                refine ret_ret ?_
                refine fin0 ttok rfl rfl ?_
                exact (wkP_refl _ rfl)
            · rw [g13]
              replace h := of_bif_f h g13
              refine go_run' ttok 21 rfl ?_
              refine go_nil nd ?_
              refine then_norm ?_
              refine awp_ret ?_
              have e23 := of_some h
              subst e23
              refine ret_ret ?_
              refine fin0 ttok rfl rfl ?_
              exact (wkP_refl _ rfl)
          · rw [g12]
            replace h := of_bif_f h g12
            refine go_run' ttok 24 rfl ?_
            refine go_nil nd ?_
            refine then_norm ?_
            refine awp_ret ?_
            have e24 := of_some h
            subst e24
            refine ret_ret ?_
            refine fin0 ttok rfl rfl ?_
            exact (wkP_refl _ rfl)
        · rw [g11]
          replace h := of_bif_f h g11
          refine go_run' ttok 28 rfl ?_
          refine go_nil nd ?_
          refine then_norm ?_
          refine awp_ret ?_
          have e25 := of_some h
          subst e25
          refine ret_ret ?_
          refine fin0 ttok rfl rfl ?_
          exact (wkP_refl _ rfl)
      · rw [g10]
        replace h := of_bif_f h g10
        refine go_run' ttok 33 rfl ?_
        refine go_nil nd ?_
        refine then_norm ?_
        refine awp_ret ?_
        have e26 := of_some h
        subst e26
        refine ret_ret ?_
        refine fin0 ttok rfl rfl ?_
        exact (wkP_refl _ rfl)
    · rw [g9]
      replace h := of_bif_f h g9
      refine go_run' ttok 36 rfl ?_
      refine go_nil nd ?_
      refine then_norm ?_
      refine awp_ret ?_
      have e27 := of_some h
      subst e27
      refine ret_ret ?_
      refine fin0 ttok rfl rfl ?_
      exact (wkP_refl _ rfl)
  · rw [g8]
    replace h := of_bif_f h g8
    refine go_run' ttok 40 rfl ?_
    refine go_nil nd ?_
    refine then_norm ?_
    refine awp_ret ?_
    have e28 := of_some h
    subst e28
    refine ret_ret ?_
    refine fin0 ttok rfl rfl ?_
    exact (wkP_refl _ rfl)
noncomputable def l20_awake_c (N : Nat) : Option Bool :=
  (Option.bind (l20_sample_c N) (fun sv => (Option.bind ((l20_best_c N) sv (⟨(⟨(-50), 55⟩ : Sp), (⟨0, 42⟩ : Sp)⟩ : TRect) 500) (fun bv => (Option.bind ((l20_best_c N) (⟨sv.Solid, [(⟨1, (⟨(⟨50, 60⟩ : Sp), (⟨0, 20⟩ : Sp), (⟨0, 30⟩ : Sp)⟩ : Bx)⟩ : Df)], sv.Product, sv.Fine⟩ : Tsawmilllaw20_Given) (⟨(⟨(-50), 55⟩ : Sp), (⟨0, 42⟩ : Sp)⟩ : TRect) 500) (fun bv1 => (Option.bind ((l20_of_c N) (⟨sv.Solid, [(⟨1, (⟨(⟨50, 60⟩ : Sp), (⟨0, 20⟩ : Sp), (⟨0, 30⟩ : Sp)⟩ : Bx)⟩ : Df)], sv.Product, sv.Fine⟩ : Tsawmilllaw20_Given) (⟨(⟨(-50), 55⟩ : Sp), (⟨0, 42⟩ : Sp), (⟨0, 2500⟩ : Sp)⟩ : Bx)) (fun ov => (Option.bind ((worth_Wane_c N) sv.Solid (⟨(⟨0, 105⟩ : Sp), (⟨70, 112⟩ : Sp), (⟨0, 2000⟩ : Sp)⟩ : Bx)) (fun wv => (Option.bind (getI ([(⟨1, (⟨(⟨50, 60⟩ : Sp), (⟨0, 20⟩ : Sp), (⟨0, 30⟩ : Sp)⟩ : Bx)⟩ : Df)]) 0) (fun e => (Option.bind ((worth_Accept_c N) sv.Solid (setI ([(⟨1, (⟨(⟨50, 60⟩ : Sp), (⟨0, 20⟩ : Sp), (⟨0, 30⟩ : Sp)⟩ : Bx)⟩ : Df)]) 0 (⟨3, (⟨(⟨0, 10⟩ : Sp), (⟨0, 10⟩ : Sp), (⟨2700, 2800⟩ : Sp)⟩ : Bx)⟩ : Df)) sv.Product (⟨(⟨(-50), 55⟩ : Sp), (⟨0, 42⟩ : Sp), (⟨500, 3000⟩ : Sp)⟩ : Bx)) (fun av => (bif (eqV encSp bv.1 (⟨0, 2500⟩ : Sp)) then (bif (bv.2.1 == 90) then (bif bv.2.2 then (bif (eqV encSp bv1.1 (⟨500, 3000⟩ : Sp)) then (bif (bv1.2.1 == 90) then (bif bv1.2.2 then (bif (ov.1 == 80) then (bif ov.2 then (bif (wv == 320) then (bif (!av) then some ((worth_Check_g (⟨0, 0, 0, 0⟩ : TSaw) (⟨0, 0, 0⟩ : TRates)) == 9) else some false) else some false) else some false) else some false) else some false) else some false) else some false) else some false) else some false) else some false)))))))))))))))
theorem l20_awake_le (N : Nat) : OLe (l20_awake_c N) (l20_awake_g) := by
  unfold l20_awake_c l20_awake_g
  repeat' (first | exact ole_rfl | exact l20_sample_le _ | exact l20_best_le _ _ _ _ | exact l20_of_le _ _ _ | exact worth_Wane_le _ _ _ | exact worth_Accept_le _ _ _ _ _ | refine ole_bif ?_ ?_ | refine ole_bind ?_ (fun _ => ?_) | refine ole_let (fun _ => ?_) | refine ole_map ?_ | refine ole_elim (fun _ => ?_) (fun _ => ?_) | refine ole_loop (fun _ => ?_))

/-- sawmill/sawmilllaw20.WorthChecks -/
noncomputable def l20_WorthChecks_g (s : TSaw) (vr : TRates) : Option Bool :=
  (bif ((worth_Check_g s vr) == (r20_Check_g s vr)) then (Option.bind l20_awake_g (fun av => some av)) else some false)
theorem l20_WorthChecks_w (s : TSaw) (vr : TRates) (r : Bool) (h : l20_WorthChecks_g s vr = some r) : Holds Try.prog 3 [(encTSaw s), (encTRates vr)] [] (B r) [] := by
  unfold l20_WorthChecks_g at h
  refine holds_fn Try.func3 rfl Try.ntmps3 rfl rfl rfl ?_
  refine awp_seq ?_
  refine awp_go hmix ?_
  refine go_run' ttok 3 rfl ?_
  refine go_nil nd ?_
  refine then_norm ?_
  refine awp_seq ?_
  refine awp_go hmix ?_
  refine go_run' ttok 2 rfl ?_
  refine go_call fn11 (worth_Check_w s vr _ rfl) rfl rfl rfl rfl rfl rfl rfl ?_
  refine go_run' ttok 2 rfl ?_
  refine go_call fn12 (r20_Check_w s vr _ rfl) rfl rfl rfl rfl rfl rfl rfl ?_
  refine go_run' ttok 2 rfl ?_
  refine go_gcase rfl rfl rfl (fun g1 => ?_) (fun g1 => ?_)
  · rw [g1]
    replace h := of_bif_t h g1
    obtain ⟨av, hv2, h⟩ := of_obind h
    refine go_call fn13 (l20_awake_w av hv2) rfl rfl rfl rfl rfl rfl rfl ?_
    refine go_run' ttok 2 rfl ?_
    refine go_nil (fun _ => by kernel_rfl) ?_
    refine then_norm ?_
    refine awp_ret ?_
    have e3 := of_some h
    subst e3
    refine ret_ret ?_
    refine fin0 ttok rfl rfl ?_
    exact (wkP_refl _ rfl)
  · rw [g1]
    replace h := of_bif_f h g1
    refine go_run' ttok 3 rfl ?_
    refine go_nil (fun _ => by kernel_rfl) ?_
    refine then_norm ?_
    refine awp_ret ?_
    have e4 := of_some h
    subst e4
    refine ret_ret ?_
    refine fin0 ttok rfl rfl ?_
    exact (wkP_refl _ rfl)

noncomputable def l20_Small_s1 (g : Tsawmilllaw20_Given) (i : Int) : Option (Int ⊕ (Bool ⊕ Unit)) :=
  (bif (decide (i < ((g.Solid.length : Nat) : Int))) then (Option.bind (getI g.Solid i) (fun e => (bif (decide (130 < ((e.Sec.Rows.length : Nat) : Int))) then some (Sum.inr (Sum.inl false)) else some (Sum.inl (W64 (i + 1)))))) else some (Sum.inr (Sum.inr ())))
/-- sawmill/sawmilllaw20.Small -/
noncomputable def l20_Small_g (g : Tsawmilllaw20_Given) : Option Bool :=
  (bif (decide (30 < ((g.Solid.length : Nat) : Int))) then some false else (bif (decide (70 < ((g.Defects.length : Nat) : Int))) then some false else (bif (decide (10 < ((g.Product.Lengths.length : Nat) : Int))) then some false else (bif (decide (10 < ((g.Product.Prices.length : Nat) : Int))) then some false else (bif (decide (100 < ((g.Product.Name.size : Nat) : Int))) then some false else (Option.bind ((loopO (fun q => l20_Small_s1 g q) 0) : Option (Bool ⊕ Unit)) (Sum.elim (fun q => some q) (fun _ => some true))))))))
theorem l20_Small_w (g : Tsawmilllaw20_Given) (r : Bool) (h : l20_Small_g g = some r) : Holds Try.prog 14 [(encTsawmilllaw20_Given g)] [] (B r) [] := by
  unfold l20_Small_g at h
  refine holds_fn Try.func14 rfl Try.ntmps14 rfl rfl rfl ?_
  refine awp_seq ?_
  refine awp_go hmix ?_
  refine go_run' ttok 2 rfl ?_
  refine go_nil nd ?_
  refine then_norm ?_
  refine awp_seq ?_
  refine awp_seq ?_
  refine awp_go hmix ?_
  refine go_run' ttok 2 rfl ?_
  refine go_lenT encTSlice g.Solid ttok rfl rfl rfl rfl rfl rfl ?_
  refine go_run' ttok 2 rfl ?_
  refine go_gcase rfl rfl rfl (fun g1 => ?_) (fun g1 => ?_)
  · rw [g1]
    replace h := of_bif_t h g1
    refine go_run' ttok 26 rfl ?_
    refine go_nil nd ?_
    refine then_norm ?_
    refine awp_cond rfl (fun tt0 => ?_) (fun h => by cases h)
    clear tt0
    refine awp_seq ?_
    refine awp_go hmix ?_
    refine go_run' ttok 1 rfl ?_
    refine go_nil nd ?_
    refine then_norm ?_
    refine awp_ret ?_
    refine then_ret ?_
    have e2 := of_some h
    subst e2
    refine ret_ret ?_
    refine fin0 ttok rfl rfl ?_
    exact (wkP_refl _ rfl)
  · rw [g1]
    replace h := of_bif_f h g1
    refine go_run' ttok 2 rfl ?_
    refine go_lenT encDf g.Defects ttok rfl rfl rfl rfl rfl rfl ?_
    refine go_run' ttok 3 rfl ?_
    refine go_gcase rfl rfl rfl (fun g3 => ?_) (fun g3 => ?_)
    · rw [g3]
      replace h := of_bif_t h g3
      refine go_run' ttok 20 rfl ?_
      refine go_nil nd ?_
      refine then_norm ?_
      refine awp_cond rfl (fun tt0 => ?_) (fun h => by cases h)
      clear tt0
      refine awp_seq ?_
      refine awp_go hmix ?_
      refine go_run' ttok 1 rfl ?_
      refine go_nil nd ?_
      refine then_norm ?_
      refine awp_ret ?_
      refine then_ret ?_
      have e4 := of_some h
      subst e4
      refine ret_ret ?_
      refine fin0 ttok rfl rfl ?_
      exact (wkP_refl _ rfl)
    · rw [g3]
      replace h := of_bif_f h g3
      refine go_run' ttok 3 rfl ?_
      refine go_lenT I g.Product.Lengths ttok rfl rfl rfl rfl rfl rfl ?_
      refine go_run' ttok 3 rfl ?_
      refine go_gcase rfl rfl rfl (fun g5 => ?_) (fun g5 => ?_)
      · rw [g5]
        replace h := of_bif_t h g5
        refine go_run' ttok 13 rfl ?_
        refine go_nil nd ?_
        refine then_norm ?_
        refine awp_cond rfl (fun tt0 => ?_) (fun h => by cases h)
        clear tt0
        refine awp_seq ?_
        refine awp_go hmix ?_
        refine go_run' ttok 1 rfl ?_
        refine go_nil nd ?_
        refine then_norm ?_
        refine awp_ret ?_
        refine then_ret ?_
        have e6 := of_some h
        subst e6
        refine ret_ret ?_
        refine fin0 ttok rfl rfl ?_
        exact (wkP_refl _ rfl)
      · rw [g5]
        replace h := of_bif_f h g5
        refine go_run' ttok 3 rfl ?_
        refine go_lenT I g.Product.Prices ttok rfl rfl rfl rfl rfl rfl ?_
        refine go_run' ttok 3 rfl ?_
        refine go_gcase rfl rfl rfl (fun g7 => ?_) (fun g7 => ?_)
        · rw [g7]
          replace h := of_bif_t h g7
          refine go_run' ttok 6 rfl ?_
          refine go_nil nd ?_
          refine then_norm ?_
          refine awp_cond rfl (fun tt0 => ?_) (fun h => by cases h)
          clear tt0
          refine awp_seq ?_
          refine awp_go hmix ?_
          refine go_run' ttok 1 rfl ?_
          refine go_nil nd ?_
          refine then_norm ?_
          refine awp_ret ?_
          refine then_ret ?_
          have e8 := of_some h
          subst e8
          refine ret_ret ?_
          refine fin0 ttok rfl rfl ?_
          exact (wkP_refl _ rfl)
        · rw [g7]
          replace h := of_bif_f h g7
          refine go_run' ttok 6 rfl ?_
          refine go_nil nd ?_
          refine then_norm ?_
          refine awp_cond (b := (decide (100 < ((g.Product.Name.size : Nat) : Int)))) rfl (fun c9 => ?_) (fun c9 => ?_)
          · replace h := of_bif_t h c9
            refine awp_seq ?_
            refine awp_go hmix ?_
            refine go_run' ttok 1 rfl ?_
            refine go_nil nd ?_
            refine then_norm ?_
            refine awp_ret ?_
            refine then_ret ?_
            have e10 := of_some h
            subst e10
            refine ret_ret ?_
            refine fin0 ttok rfl rfl ?_
            exact (wkP_refl _ rfl)
          · replace h := of_bif_f h c9
            refine awp_skip ?_
            refine then_norm ?_
            obtain ⟨y, hx11, h⟩ := of_obind h
            refine awp_seqJ (X := Unit) [] [] (fun _ => []) (fun _ => []) (fun w => Sum.inr w = y) rfl rfl ?_ ?_
            · skip
              refine awp_seq ?_
              refine awp_go hmix ?_
              refine go_run' ttok 1 rfl ?_
              refine go_nil nd ?_
              refine then_norm ?_
              refine awp_block ?_
              refine awp_loopD (X := Int) (Y := (Bool ⊕ Unit)) [1] [1] (fun q => [(3, (I q))]) (fun q => []) (fun q => l20_Small_s1 g q) 0 [(1, some 1)] hx11 ⟨rfl, rfl, rfl, rfl, rfl, ⟨wkP_id _ rfl, trivial⟩, trivial⟩ (fun i vR vz hz13 hk14 => ?_)
              change l20_Small_s1 g i = _ at hz13
              unfold l20_Small_s1 at hz13
              refine awp_seq ?_
              refine awp_seq ?_
              refine awp_go hmix ?_
              refine go_run' ttok 3 rfl ?_
              refine go_lenT encTSlice g.Solid ttok rfl rfl rfl rfl rfl rfl ?_
              refine go_run' ttok 1 rfl ?_
              refine go_nil nd ?_
              refine then_norm ?_
              refine awp_cond (b := (decide (i < ((g.Solid.length : Nat) : Int)))) rfl (fun c15 => ?_) (fun c15 => ?_)
              · replace hz13 := of_bif_t hz13 c15
                refine awp_skip ?_
                refine then_norm ?_
                refine awp_seq ?_
                refine awp_block ?_
                refine awp_seq ?_
                refine awp_go hmix ?_
                refine go_run' ttok 3 rfl ?_
                obtain ⟨e, hv16, hz13⟩ := of_obind hz13
                refine go_indexT encTSlice g.Solid i e hv16 ttok rfl rfl rfl rfl rfl rfl rfl rfl rfl ?_
                refine go_run' ttok 3 rfl ?_
                refine go_lenT encSp e.Sec.Rows ttok rfl rfl rfl rfl rfl rfl ?_
                refine go_run' ttok 1 rfl ?_
                refine go_nil nd ?_
                refine then_norm ?_
                refine awp_cond (b := (decide (130 < ((e.Sec.Rows.length : Nat) : Int)))) rfl (fun c17 => ?_) (fun c17 => ?_)
                · replace hz13 := of_bif_t hz13 c17
                  refine awp_seq ?_
                  refine awp_go hmix ?_
                  refine go_run' ttok 1 rfl ?_
                  refine go_nil nd ?_
                  refine then_norm ?_
                  refine awp_ret ?_
                  refine block_ret ?_
                  refine then_ret ?_
                  obtain ⟨t, hn18, hq⟩ := of_mapr' hz13
                  subst hq
                  have hq : t = _ := hk14
                  subst hq
                  refine then_ret ?_
                  refine block_ret ?_
                  obtain ⟨t1, hn19, hq⟩ := of_mapl' hn18
                  subst hq
                  have hq := of_inl h
                  replace hq := of_some hq
                  subst hq
                  refine then_ret ?_
                  have e20 := of_some hn19
                  subst e20
                  refine ret_ret ?_
                  refine fin0 ttok rfl rfl ?_
                  exact (wkP_refl _ rfl)
                · replace hz13 := of_bif_f hz13 c17
                  refine awp_skip ?_
                  refine block_norm ?_
                  refine then_norm ?_
                  refine awp_go hmix ?_
                  refine go_run' ttok 3 rfl ?_
                  refine go_nil nd ?_
                  have e21 := of_some hz13
                  subst e21
                  refine then_norm ⟨rfl, (W64 (i + 1)), [(1, some 1)], ⟨rfl, rfl, rfl, rfl, rfl, ⟨wkP_id _ rfl, trivial⟩, trivial⟩, hk14⟩
              · replace hz13 := of_bif_f hz13 c15
                refine awp_exit ?_
                refine then_exit ?_
                obtain ⟨t2, hn22, hq⟩ := of_mapr' hz13
                subst hq
                have hq : t2 = _ := hk14
                subst hq
                refine then_exit ?_
                refine block_here ?_
                have e23 := of_some hn22
                refine then_norm ⟨rfl, (), [], ⟨rfl, rfl, rfl, rfl, rfl, trivial, trivial⟩, e23⟩
            · intro w hw12
              subst hw12
              replace h := of_inr h
              refine awp_seq ?_
              refine awp_go hmix ?_
              refine go_run' ttok 1 rfl ?_
              refine go_nil nd ?_
              refine then_norm ?_
              refine awp_ret ?_
              have e24 := of_some h
              subst e24
              refine ret_ret ?_
              refine fin0 ttok rfl rfl ?_
              exact (wkP_refl _ rfl)

/-- sawmill/sawmillref20.across -/
noncomputable def r20_across_g (s : Sp) : Bool :=
  (bif (decide ((-600) ≤ s.a)) then (bif (decide (s.a < s.b)) then (decide (s.b ≤ 600)) else false) else false)
theorem r20_across_w (s : Sp) (r : Bool) (h : r20_across_g s = r) : Holds Try.prog 51 [(encSp s)] [] (B r) [] := by
  unfold r20_across_g at h
  refine holds_fn Try.func51 rfl Try.ntmps51 rfl rfl rfl ?_
  refine awp_seq ?_
  refine awp_go hmix ?_
  refine go_run' ttok 2 rfl ?_
  refine go_nil nd ?_
  refine then_norm ?_
  refine awp_seq ?_
  refine awp_go hmix ?_
  refine go_run' ttok 4 rfl ?_
  refine go_gcase rfl rfl rfl (fun g1 => ?_) (fun g1 => ?_)
  · rw [g1]
    replace h := of_bif_t h g1
    refine go_run' ttok 7 rfl ?_
    refine go_gcase rfl rfl rfl (fun g2 => ?_) (fun g2 => ?_)
    · rw [g2]
      replace h := of_bif_t h g2
      refine go_run' ttok 5 rfl ?_
      refine go_nil nd ?_
      refine then_norm ?_
      refine awp_ret ?_
      have e3 := h
      subst e3
      refine ret_ret ?_
      refine fin0 ttok rfl rfl ?_
      exact (wkP_refl _ rfl)
    · rw [g2]
      replace h := of_bif_f h g2
      refine go_run' ttok 5 rfl ?_
      refine go_nil nd ?_
      refine then_norm ?_
      refine awp_ret ?_
      have e4 := h
      subst e4
      refine ret_ret ?_
      refine fin0 ttok rfl rfl ?_
      exact (wkP_refl _ rfl)
  · rw [g1]
    replace h := of_bif_f h g1
    refine go_run' ttok 12 rfl ?_
    refine go_nil nd ?_
    refine then_norm ?_
    refine awp_ret ?_
    have e5 := h
    subst e5
    refine ret_ret ?_
    refine fin0 ttok rfl rfl ?_
    exact (wkP_refl _ rfl)

/-- sawmill/sawmillref10.beyond -/
noncomputable def r10_beyond_g (n : Int) : Bool :=
  (bif (decide (n < (-600))) then true else (decide (600 < n)))
theorem r10_beyond_w (n : Int) (r : Bool) (h : r10_beyond_g n = r) : Holds Try.prog 93 [(I n)] [] (B r) [] := by
  unfold r10_beyond_g at h
  refine holds_fn Try.func93 rfl Try.ntmps93 rfl rfl rfl ?_
  refine awp_seq ?_
  refine awp_go hmix ?_
  refine go_run' ttok 1 rfl ?_
  refine go_nil nd ?_
  refine then_norm ?_
  refine awp_seq ?_
  refine awp_go hmix ?_
  refine go_run' ttok 3 rfl ?_
  refine go_gcase rfl rfl rfl (fun g1 => ?_) (fun g1 => ?_)
  · rw [g1]
    replace h := of_bif_t h g1
    refine go_run' ttok 4 rfl ?_
    refine go_nil nd ?_
    refine then_norm ?_
    refine awp_ret ?_
    have e2 := h
    subst e2
    refine ret_ret ?_
    refine fin0 ttok rfl rfl ?_
    exact (wkP_refl _ rfl)
  · rw [g1]
    replace h := of_bif_f h g1
    refine go_run' ttok 4 rfl ?_
    refine go_nil nd ?_
    refine then_norm ?_
    refine awp_ret ?_
    have e3 := h
    subst e3
    refine ret_ret ?_
    refine fin0 ttok rfl rfl ?_
    exact (wkP_refl _ rfl)

/-- sawmill/sawmillref10.empty -/
noncomputable def r10_empty_g (s : Sp) : Bool :=
  (decide (s.b ≤ s.a))
theorem r10_empty_w (s : Sp) (r : Bool) (h : r10_empty_g s = r) : Holds Try.prog 84 [(encSp s)] [] (B r) [] := by
  unfold r10_empty_g at h
  refine holds_fn Try.func84 rfl Try.ntmps84 rfl rfl rfl ?_
  refine awp_seq ?_
  refine awp_go hmix ?_
  refine go_run' ttok 2 rfl ?_
  refine go_nil nd ?_
  refine then_norm ?_
  refine awp_seq ?_
  refine awp_go hmix ?_
  refine go_run' ttok 6 rfl ?_
  refine go_nil nd ?_
  refine then_norm ?_
  refine awp_ret ?_
  have e1 := h
  subst e1
  refine ret_ret ?_
  refine fin0 ttok rfl rfl ?_
  exact (wkP_refl _ rfl)

end Go.Proofs.Ytjdgaclkcmjjcaa
