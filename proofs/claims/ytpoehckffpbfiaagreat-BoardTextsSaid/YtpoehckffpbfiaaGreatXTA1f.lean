/- A1f: what functions of the program compute (written by mod.py). -/
import Derived.Test.YtpoehckffpbfiaaGreatXTA1e
import Derived.KernelRfl
namespace Go.Proofs.YtpoehckffpbfiaaGreat
open Go Go.Ab
set_option linter.unusedSimpArgs false
set_option linter.unusedVariables false
set_option linter.unusedSectionVars false
set_option maxRecDepth 20000
set_option maxHeartbeats 1000000
noncomputable def r05_number_s1 (s : ByteArray) (vat : Int) (n : Int) (vunit : Int) (i : Int) : Option ((Int × Int × Int) ⊕ ((Int × Int × Int) ⊕ Unit)) :=
 (bif (decide (i < 10)) then (bif (decide (((s.size : Nat) : Int) ≤ (W64 (vat + i)))) then some (Sum.inr (Sum.inl (0, vat, 3))) else (Option.bind (bytO s (W64 (vat + i))) (fun c => (Option.bind ((bif (i == 9) then (bif (decide (1 < (WU64 c))) then some (Sum.inl (Sum.inr (Sum.inl (0, vat, 5)))) else some (Sum.inr ())) else some (Sum.inr ())) : Option (((Int × Int × Int) ⊕ ((Int × Int × Int) ⊕ Unit)) ⊕ Unit)) (Sum.elim (fun q => some q) (fun _ => (bif (decide ((WU64 c) < 128)) then (bif ((WU64 c) == 0) then (bif (decide (0 < i)) then some (Sum.inr (Sum.inl (0, vat, 5))) else some (Sum.inr (Sum.inl ((WU64 (n + (WU64 ((Int.tmod (WU64 c) 128) * vunit)))), (W64 ((W64 (vat + i)) + 1)), 0)))) else some (Sum.inr (Sum.inl ((WU64 (n + (WU64 ((Int.tmod (WU64 c) 128) * vunit)))), (W64 ((W64 (vat + i)) + 1)), 0)))) else some (Sum.inl ((WU64 (n + (WU64 ((Int.tmod (WU64 c) 128) * vunit)))), (WU64 (vunit * 128)), (W64 (i + 1))))))))))) else some (Sum.inr (Sum.inr ())))
noncomputable def r05_number_g (s : ByteArray) (vat : Int) : Option (Int × Int × Int) :=
 (Option.bind ((loopO (fun q => r05_number_s1 s vat q.1 q.2.1 q.2.2) (0, 1, 0)) : Option ((Int × Int × Int) ⊕ Unit)) (Sum.elim (fun q => some q) (fun _ => some (0, vat, 5))))
theorem r05_number_w (s : ByteArray) (vat : Int) (r : (Int × Int × Int)) (h : r05_number_g s vat = some r) : Holds Tryz.prog 116 [(S s), (I vat)] [] (.tup [(U64 r.1), (I r.2.1), (I r.2.2)]) [] := by
 unfold r05_number_g at h
 refine holds_fn Tryz.func116 rfl Tryz.ntmps116 rfl rfl rfl (fun lim => ?_)
 refine awp_seq (awp_go hmix (go_run' ttok 3 rfl (go_nil nd (then_norm (awp_seq (awp_go hmix (go_run' ttok 2 rfl (go_nil nd (then_norm ?_)))))))))
 obtain ⟨y, hx1, h⟩ := of_obind h
 refine awp_seqJ (X := Unit) [1] [] (fun _ => []) (fun _ => []) (fun w => Sum.inr w = y) rfl rfl ?_ ?_
 ·skip
  refine awp_seq (awp_go hmix (go_run' ttok 1 rfl (go_nil nd (then_norm (awp_block ?_)))))
  refine awp_loopD (X := (Int × Int × Int)) (Y := ((Int × Int × Int) ⊕ Unit)) [0, 1] [] (fun q => [(7, (U64 q.1)), (8, (U64 q.2.1)), (9, (I q.2.2))]) (fun q => []) (fun q => r05_number_s1 s vat q.1 q.2.1 q.2.2) (0, 1, 0) [] hx1 ⟨rfl, rfl, rfl, rfl, rfl, ⟨wkP_id _ rfl, wkP_id _ rfl, wkP_id _ rfl, trivial⟩, trivial⟩ (fun x vR vz hz3 hk4 => ?_)
  obtain ⟨n, vunit, i⟩ := x
  change r05_number_s1 s vat n vunit i = _ at hz3
  unfold r05_number_s1 at hz3
  refine awp_seq (awp_seq (awp_go hmix (go_run' ttok 2 rfl (go_nil nd (then_norm ?_)))))
  refine awp_cond (b := (decide (i < 10))) rfl (fun c5 => ?_) (fun c5 => ?_)
  ·replace hz3 := of_bif_t hz3 c5
   refine awp_skip (then_norm (awp_seq (awp_block (awp_seq (awp_seq (awp_go hmix (go_run' ttok 6 rfl (go_nil nd (then_norm ?_)))))))))
   refine awp_cond (b := (decide (((s.size : Nat) : Int) ≤ (W64 (vat + i))))) rfl (fun c6 => ?_) (fun c6 => ?_)
   ·replace hz3 := of_bif_t hz3 c6
    refine awp_seq (awp_go hmix (go_run' ttok 4 rfl (go_nil nd (then_norm (awp_ret (then_ret (block_ret (then_ret ?_))))))))
    obtain ⟨t, hn7, hq⟩ := of_mapr' hz3
    subst hq
    have hq : t = _ := hk4
    subst hq
    refine then_ret (block_ret ?_)
    obtain ⟨t1, hn8, hq⟩ := of_mapl' hn7
    subst hq
    have hq := of_inl h
    replace hq := of_some hq
    subst hq
    refine then_ret ?_
    have e9 := of_some hn8
    subst e9
    refine ret_ret ?_
    refine fin0 ttok rfl rfl ?_
    exact wkP_refl _ rfl
   ·replace hz3 := of_bif_f hz3 c6
    refine awp_skip (then_norm (awp_seq (awp_go hmix (go_run' ttok 4 rfl ?_))))
    obtain ⟨c, hv10, hz3⟩ := of_obind hz3
    refine go_indexB s (W64 (vat + i)) c hv10 ttok rfl rfl rfl rfl rfl rfl rfl ?_
    refine go_run' ttok 2 rfl (go_nil nd (then_norm ?_))
    obtain ⟨y1, hx11, hz3⟩ := of_obind hz3
    refine awp_seqJ (X := Unit) [0, 1, 7, 8, 9, 10] [] (fun _ => []) (fun _ => []) (fun w1 => Sum.inr w1 = y1) rfl rfl ?_ ?_
    ·skip
     refine awp_seq (awp_go hmix (go_run' ttok 3 rfl ?_))
     refine go_gcase rfl rfl rfl (fun g13 => ?_) (fun g13 => ?_)
     ·rw [g13]
      replace hx11 := of_bif_t hx11 g13
      refine go_run' ttok 3 rfl (go_nil nd (then_norm ?_))
      refine awp_cond (b := (decide (1 < (WU64 c)))) rfl (fun c14 => ?_) (fun c14 => ?_)
      ·replace hx11 := of_bif_t hx11 c14
       refine awp_seq (awp_go hmix (go_run' ttok 4 rfl (go_nil nd (then_norm (awp_ret ?_)))))
       obtain ⟨t2, hn15, hq⟩ := of_mapl' hx11
       subst hq
       have hq := of_inl hz3
       replace hq := of_some hq
       subst hq
       refine then_ret (block_ret (then_ret ?_))
       obtain ⟨t3, hn16, hq⟩ := of_mapr' hn15
       subst hq
       have hq : t3 = _ := hk4
       subst hq
       refine then_ret (block_ret ?_)
       obtain ⟨t4, hn17, hq⟩ := of_mapl' hn16
       subst hq
       have hq := of_inl h
       replace hq := of_some hq
       subst hq
       refine then_ret ?_
       have e18 := of_some hn17
       subst e18
       refine ret_ret ?_
       refine fin0 ttok rfl rfl ?_
       exact wkP_refl _ rfl
      ·replace hx11 := of_bif_f hx11 c14
       refine awp_skip ?_
       have e19 := of_some hx11
       refine then_norm ⟨rfl, (), [], ⟨rfl, rfl, rfl, rfl, rfl, trivial, trivial⟩, e19⟩
     ·rw [g13]
      replace hx11 := of_bif_f hx11 g13
      refine go_run' ttok 3 rfl (go_nil nd (then_norm ?_))
      refine awp_cond rfl (fun h => by cases h) (fun tt0 => ?_)
      clear tt0
      refine awp_skip ?_
      have e20 := of_some hx11
      refine then_norm ⟨rfl, (), [], ⟨rfl, rfl, rfl, rfl, rfl, trivial, trivial⟩, e20⟩
    ·intro w1 hw12
     subst hw12
     replace hz3 := of_inr hz3
     refine awp_seq (awp_go hmix (go_run' ttok 7 rfl (go_nil nd (then_norm (awp_seq (awp_go hmix (go_run' ttok 3 rfl (go_nil nd (then_norm (awp_seq (awp_go hmix (go_run' ttok 2 rfl (go_nil nd (then_norm ?_))))))))))))))
     refine awp_cond (b := (decide ((WU64 c) < 128))) rfl (fun c21 => ?_) (fun c21 => ?_)
     ·replace hz3 := of_bif_t hz3 c21
      refine awp_seq (awp_seq (awp_go hmix (go_run' ttok 3 rfl ?_)))
      refine go_gcase rfl rfl rfl (fun g22 => ?_) (fun g22 => ?_)
      ·rw [g22]
       replace hz3 := of_bif_t hz3 g22
       refine go_run' ttok 3 rfl (go_nil nd (then_norm ?_))
       refine awp_cond (b := (decide (0 < i))) rfl (fun c23 => ?_) (fun c23 => ?_)
       ·replace hz3 := of_bif_t hz3 c23
        refine awp_seq (awp_go hmix (go_run' ttok 4 rfl (go_nil nd (then_norm (awp_ret (then_ret (block_ret (then_ret ?_))))))))
        obtain ⟨t5, hn24, hq⟩ := of_mapr' hz3
        subst hq
        have hq : t5 = _ := hk4
        subst hq
        refine then_ret (block_ret ?_)
        obtain ⟨t6, hn25, hq⟩ := of_mapl' hn24
        subst hq
        have hq := of_inl h
        replace hq := of_some hq
        subst hq
        refine then_ret ?_
        have e26 := of_some hn25
        subst e26
        refine ret_ret ?_
        refine fin0 ttok rfl rfl ?_
        exact wkP_refl _ rfl
       ·replace hz3 := of_bif_f hz3 c23
        refine awp_skip (then_norm (awp_seq (awp_go hmix (go_run' ttok 8 rfl (go_nil nd (then_norm (awp_ret (block_ret (then_ret ?_)))))))))
        obtain ⟨t7, hn27, hq⟩ := of_mapr' hz3
        subst hq
        have hq : t7 = _ := hk4
        subst hq
        refine then_ret (block_ret ?_)
        obtain ⟨t8, hn28, hq⟩ := of_mapl' hn27
        subst hq
        have hq := of_inl h
        replace hq := of_some hq
        subst hq
        refine then_ret ?_
        have e29 := of_some hn28
        subst e29
        refine ret_ret ?_
        refine fin0 ttok rfl rfl ?_
        exact wkP_refl _ rfl
      ·rw [g22]
       replace hz3 := of_bif_f hz3 g22
       refine go_run' ttok 3 rfl (go_nil nd (then_norm ?_))
       refine awp_cond rfl (fun h => by cases h) (fun tt0 => ?_)
       clear tt0
       refine awp_skip (then_norm (awp_seq (awp_go hmix (go_run' ttok 8 rfl (go_nil nd (then_norm (awp_ret (block_ret (then_ret ?_)))))))))
       obtain ⟨t9, hn30, hq⟩ := of_mapr' hz3
       subst hq
       have hq : t9 = _ := hk4
       subst hq
       refine then_ret (block_ret ?_)
       obtain ⟨t10, hn31, hq⟩ := of_mapl' hn30
       subst hq
       have hq := of_inl h
       replace hq := of_some hq
       subst hq
       refine then_ret ?_
       have e32 := of_some hn31
       subst e32
       refine ret_ret ?_
       refine fin0 ttok rfl rfl ?_
       exact wkP_refl _ rfl
     ·replace hz3 := of_bif_f hz3 c21
      refine awp_skip (block_norm (then_norm (awp_go hmix (go_run' ttok 3 rfl (go_nil nd ?_)))))
      have e33 := of_some hz3
      subst e33
      refine then_norm ⟨rfl, ((WU64 (n + (WU64 ((Int.tmod (WU64 c) 128) * vunit)))), (WU64 (vunit * 128)), (W64 (i + 1))), [], ⟨rfl, rfl, rfl, rfl, rfl, ⟨wkP_id _ rfl, wkP_id _ rfl, wkP_id _ rfl, trivial⟩, trivial⟩, hk4⟩
  ·replace hz3 := of_bif_f hz3 c5
   refine awp_exit (then_exit ?_)
   obtain ⟨t11, hn34, hq⟩ := of_mapr' hz3
   subst hq
   have hq : t11 = _ := hk4
   subst hq
   refine then_exit (block_here ?_)
   have e35 := of_some hn34
   refine then_norm ⟨rfl, (), [], ⟨rfl, rfl, rfl, rfl, rfl, trivial, trivial⟩, e35⟩
 ·intro w hw2
  subst hw2
  replace h := of_inr h
  refine awp_seq (awp_go hmix (go_run' ttok 4 rfl (go_nil nd (then_norm (awp_ret ?_)))))
  have e36 := of_some h
  subst e36
  refine ret_ret ?_
  refine fin0 ttok rfl rfl ?_
  exact wkP_refl _ rfl
noncomputable def r05_fail_g (vr : Tsawmillref05_Reader) (e : Int) : Tsawmillref05_Reader :=
 (⟨vr.S_, vr.At, e⟩ : Tsawmillref05_Reader)
theorem r05_fail_w (vr : Tsawmillref05_Reader) (e : Int) (r : Tsawmillref05_Reader) (h : r05_fail_g vr e = r) : Holds Tryz.prog 117 [(encTsawmillref05_Reader vr), (I e)] [] (encTsawmillref05_Reader r) [] := by
 unfold r05_fail_g at h
 refine holds_fn Tryz.func117 rfl Tryz.ntmps117 rfl rfl rfl (fun lim => ?_)
 refine awp_seq (awp_go hmix (go_run' ttok 2 rfl (go_nil nd (then_norm (awp_seq (awp_go hmix (go_run' ttok 3 rfl (go_nil nd (then_norm (awp_seq (awp_go hmix (go_run' ttok 2 rfl (go_nil nd (then_norm (awp_ret ?_)))))))))))))))
 have e1 := h
 subst e1
 refine ret_ret ?_
 refine fin0 ttok rfl rfl ?_
 exact (wkP_refl _ rfl)
noncomputable def r05_ReadText_g (vr : Tsawmillref05_Reader) (most : Int) : Option (Tsawmillref05_Reader × ByteArray) :=
 (bif (vr.E != 0) then some (vr, (⟨#[]⟩ : ByteArray)) else (Option.bind (r05_number_g vr.S_ vr.At) (fun nv => (bif (nv.2.2 != 0) then (letB (r05_fail_g vr nv.2.2) (fun fv => some (fv, (⟨#[]⟩ : ByteArray)))) else (bif (decide (most < 0)) then (letB (r05_fail_g vr 4) (fun fv1 => some (fv1, (⟨#[]⟩ : ByteArray)))) else (bif (decide ((WU64 most) < nv.1)) then (letB (r05_fail_g vr 4) (fun fv2 => some (fv2, (⟨#[]⟩ : ByteArray)))) else (bif (decide ((WU64 (W64 (((vr.S_.size : Nat) : Int) - nv.2.1))) < nv.1)) then (letB (r05_fail_g vr 3) (fun fv3 => some (fv3, (⟨#[]⟩ : ByteArray)))) else (Option.bind (ssubO vr.S_ nv.2.1 (W64 (nv.2.1 + (W64 nv.1)))) (fun t => some ((⟨vr.S_, (W64 (nv.2.1 + (W64 nv.1))), vr.E⟩ : Tsawmillref05_Reader), t))))))))))
theorem r05_ReadText_w (vr : Tsawmillref05_Reader) (most : Int) (r : (Tsawmillref05_Reader × ByteArray)) (h : r05_ReadText_g vr most = some r) : Holds Tryz.prog 66 [(encTsawmillref05_Reader vr), (I most)] [] (.tup [(encTsawmillref05_Reader r.1), (S r.2)]) [] := by
 unfold r05_ReadText_g at h
 refine holds_fn Tryz.func66 rfl Tryz.ntmps66 rfl rfl rfl (fun lim => ?_)
 refine awp_seq (awp_go hmix (go_run' ttok 3 rfl (go_nil nd (then_norm (awp_seq (awp_seq (awp_go hmix (go_run' ttok 3 rfl (go_nil nd (then_norm ?_))))))))))
 refine awp_cond (b := (vr.E != 0)) rfl (fun c1 => ?_) (fun c1 => ?_)
 ·replace h := of_bif_t h c1
  refine awp_seq (awp_go hmix (go_run' ttok 3 rfl (go_nil nd (then_norm (awp_ret (then_ret ?_))))))
  have e2 := of_some h
  subst e2
  refine ret_ret ?_
  refine fin0 ttok rfl rfl ?_
  exact wkP_refl _ rfl
 ·replace h := of_bif_f h c1
  refine awp_skip (then_norm (awp_seq (awp_go hmix (go_run' ttok 4 rfl ?_))))
  obtain ⟨nv, hv3, h⟩ := of_obind h
  refine go_call fn116 (r05_number_w vr.S_ vr.At nv hv3) rfl rfl rfl rfl rfl rfl rfl ?_
  refine go_run' ttok 7 rfl (go_nil nd (then_norm (awp_seq (awp_seq (awp_go hmix (go_run' ttok 2 rfl (go_nil nd (then_norm ?_))))))))
  refine awp_cond (b := (nv.2.2 != 0)) rfl (fun c4 => ?_) (fun c4 => ?_)
  ·replace h := of_bif_t h c4
   refine awp_seq (awp_go hmix (go_run' ttok 2 rfl ?_))
   obtain ⟨fv, hv5, h⟩ := of_let h
   refine go_call fn117 (r05_fail_w vr nv.2.2 fv hv5) rfl rfl rfl rfl rfl rfl rfl ?_
   refine go_run' ttok 2 rfl (go_nil nd (then_norm (awp_ret (then_ret ?_))))
   have e6 := of_some h
   subst e6
   refine ret_ret ?_
   refine fin0 ttok rfl rfl ?_
   exact wkP_refl _ rfl
  ·replace h := of_bif_f h c4
   refine awp_skip (then_norm (awp_seq (awp_seq (awp_go hmix (go_run' ttok 3 rfl ?_)))))
   refine go_gcase rfl rfl rfl (fun g7 => ?_) (fun g7 => ?_)
   ·rw [g7]
    replace h := of_bif_t h g7
    refine go_run' ttok 5 rfl (go_nil nd (then_norm ?_))
    refine awp_cond rfl (fun tt0 => ?_) (fun h => by cases h)
    clear tt0
    refine awp_seq (awp_go hmix (go_run' ttok 1 rfl ?_))
    obtain ⟨fv1, hv8, h⟩ := of_let h
    refine go_call fn117 (r05_fail_w vr 4 fv1 hv8) rfl rfl rfl rfl rfl rfl rfl ?_
    refine go_run' ttok 2 rfl (go_nil nd (then_norm (awp_ret (then_ret ?_))))
    have e9 := of_some h
    subst e9
    refine ret_ret ?_
    refine fin0 ttok rfl rfl ?_
    exact wkP_refl _ rfl
   ·rw [g7]
    replace h := of_bif_f h g7
    refine go_run' ttok 5 rfl (go_nil nd (then_norm ?_))
    refine awp_cond (b := (decide ((WU64 most) < nv.1))) rfl (fun c10 => ?_) (fun c10 => ?_)
    ·replace h := of_bif_t h c10
     refine awp_seq (awp_go hmix (go_run' ttok 1 rfl ?_))
     obtain ⟨fv2, hv11, h⟩ := of_let h
     refine go_call fn117 (r05_fail_w vr 4 fv2 hv11) rfl rfl rfl rfl rfl rfl rfl ?_
     refine go_run' ttok 2 rfl (go_nil nd (then_norm (awp_ret (then_ret ?_))))
     have e12 := of_some h
     subst e12
     refine ret_ret ?_
     refine fin0 ttok rfl rfl ?_
     exact wkP_refl _ rfl
    ·replace h := of_bif_f h c10
     refine awp_skip (then_norm (awp_seq (awp_seq (awp_go hmix (go_run' ttok 8 rfl (go_nil nd (then_norm ?_)))))))
     refine awp_cond (b := (decide ((WU64 (W64 (((vr.S_.size : Nat) : Int) - nv.2.1))) < nv.1))) rfl (fun c13 => ?_) (fun c13 => ?_)
     ·replace h := of_bif_t h c13
      refine awp_seq (awp_go hmix (go_run' ttok 1 rfl ?_))
      obtain ⟨fv3, hv14, h⟩ := of_let h
      refine go_call fn117 (r05_fail_w vr 3 fv3 hv14) rfl rfl rfl rfl rfl rfl rfl ?_
      refine go_run' ttok 2 rfl (go_nil nd (then_norm (awp_ret (then_ret ?_))))
      have e15 := of_some h
      subst e15
      refine ret_ret ?_
      refine fin0 ttok rfl rfl ?_
      exact wkP_refl _ rfl
     ·replace h := of_bif_f h c13
      refine awp_skip (then_norm (awp_seq (awp_go hmix (go_run' ttok 6 rfl (go_nil nd (then_norm (awp_seq (awp_go hmix (go_run' ttok 6 rfl ?_)))))))))
      obtain ⟨t, hv16, h⟩ := of_obind h
      refine go_sliceS vr.S_ t nv.2.1 (W64 (nv.2.1 + (W64 nv.1))) hv16 ttok rfl rfl rfl rfl rfl ⟨_, rfl⟩ ⟨_, rfl⟩ rfl ?_
      refine go_run' ttok 2 rfl ?_
      refine go_nil (fun _ => by kernel_rfl) ?_
      refine then_norm (awp_ret ?_)
      have e17 := of_some h
      subst e17
      refine ret_ret ?_
      refine fin0 ttok rfl rfl ?_
      exact wkP_refl _ rfl
noncomputable def r05_signed_g (s : ByteArray) (vat : Int) (low : Int) (high : Int) : Option (Int × Int × Int) :=
 (Option.bind (r05_number_g s vat) (fun nv => (bif (nv.2.2 != 0) then some (0, vat, nv.2.2) else (letB ((bif ((Int.tmod nv.1 2) == 1) then (W64 ((W64 (0 - (W64 (WU64 (Int.tdiv nv.1 2))))) - 1)) else (W64 (WU64 (Int.tdiv nv.1 2)))) : Int) (fun n => (bif (decide (n < low)) then some (0, vat, 9) else (bif (decide (high < n)) then some (0, vat, 9) else some (n, nv.2.1, 0))))))))
theorem r05_signed_w (s : ByteArray) (vat : Int) (low : Int) (high : Int) (r : (Int × Int × Int)) (h : r05_signed_g s vat low high = some r) : Holds Tryz.prog 118 [(S s), (I vat), (I low), (I high)] [] (.tup [(I r.1), (I r.2.1), (I r.2.2)]) [] := by
 unfold r05_signed_g at h
 refine holds_fn Tryz.func118 rfl Tryz.ntmps118 rfl rfl rfl (fun lim => ?_)
 refine awp_seq (awp_go hmix (go_run' ttok 3 rfl (go_nil nd (then_norm (awp_seq (awp_go hmix (go_run' ttok 2 rfl ?_)))))))
 obtain ⟨nv, hv1, h⟩ := of_obind h
 refine go_call fn116 (r05_number_w s vat nv hv1) rfl rfl rfl rfl rfl rfl rfl ?_
 refine go_run' ttok 7 rfl (go_nil nd (then_norm (awp_seq (awp_seq (awp_go hmix (go_run' ttok 2 rfl (go_nil nd (then_norm ?_))))))))
 refine awp_cond (b := (nv.2.2 != 0)) rfl (fun c2 => ?_) (fun c2 => ?_)
 ·replace h := of_bif_t h c2
  refine awp_seq (awp_go hmix (go_run' ttok 5 rfl (go_nil nd (then_norm (awp_ret (then_ret ?_))))))
  have e3 := of_some h
  subst e3
  refine ret_ret ?_
  refine fin0 ttok rfl rfl ?_
  exact wkP_refl _ rfl
 ·replace h := of_bif_f h c2
  refine awp_skip (then_norm (awp_seq (awp_go hmix (go_run' ttok 4 rfl (go_nil nd (then_norm ?_))))))
  obtain ⟨y, hx4, h⟩ := of_let h
  refine awp_seqJ (X := Int) [1, 2, 3, 12] [] (fun w => [(14, (I w))]) (fun w => []) (fun w => w = y) rfl rfl ?_ ?_
  ·skip
   refine awp_seq (awp_go hmix (go_run' ttok 3 rfl (go_nil nd (then_norm ?_))))
   refine awp_cond (b := ((Int.tmod nv.1 2) == 1)) rfl (fun c6 => ?_) (fun c6 => ?_)
   ·replace hx4 := of_bif_t hx4 c6
    refine awp_go hmix (go_run' ttok 4 rfl (go_nil nd ?_))
    have e7 := hx4
    refine then_norm ⟨rfl, (W64 ((W64 (0 - (W64 (WU64 (Int.tdiv nv.1 2))))) - 1)), [], ⟨rfl, rfl, rfl, rfl, rfl, ⟨wkP_id _ rfl, trivial⟩, trivial⟩, e7⟩
   ·replace hx4 := of_bif_f hx4 c6
    refine awp_skip ?_
    have e8 := hx4
    refine then_norm ⟨rfl, (W64 (WU64 (Int.tdiv nv.1 2))), [], ⟨rfl, rfl, rfl, rfl, rfl, ⟨wkP_id _ rfl, trivial⟩, trivial⟩, e8⟩
  ·intro n hw5
   subst hw5
   refine awp_seq (awp_seq (awp_go hmix (go_run' ttok 4 rfl ?_)))
   refine go_gcase rfl rfl rfl (fun g9 => ?_) (fun g9 => ?_)
   ·rw [g9]
    replace h := of_bif_t h g9
    refine go_run' ttok 4 rfl (go_nil nd (then_norm ?_))
    refine awp_cond rfl (fun tt0 => ?_) (fun h => by cases h)
    clear tt0
    refine awp_seq (awp_go hmix (go_run' ttok 4 rfl (go_nil nd (then_norm (awp_ret (then_ret ?_))))))
    have e10 := of_some h
    subst e10
    refine ret_ret ?_
    refine fin0 ttok rfl rfl ?_
    exact wkP_refl _ rfl
   ·rw [g9]
    replace h := of_bif_f h g9
    refine go_run' ttok 4 rfl (go_nil nd (then_norm ?_))
    refine awp_cond (b := (decide (high < n))) rfl (fun c11 => ?_) (fun c11 => ?_)
    ·replace h := of_bif_t h c11
     refine awp_seq (awp_go hmix (go_run' ttok 4 rfl (go_nil nd (then_norm (awp_ret (then_ret ?_))))))
     have e12 := of_some h
     subst e12
     refine ret_ret ?_
     refine fin0 ttok rfl rfl ?_
     exact wkP_refl _ rfl
    ·replace h := of_bif_f h c11
     refine awp_skip (then_norm (awp_seq (awp_go hmix (go_run' ttok 5 rfl (go_nil nd (then_norm (awp_ret ?_)))))))
     have e13 := of_some h
     subst e13
     refine ret_ret ?_
     refine fin0 ttok rfl rfl ?_
     exact wkP_refl _ rfl
noncomputable def r05_ReadInts_s1 (vr : Tsawmillref05_Reader) (low : Int) (high : Int) (nv : (Int × Int × Int)) (vnext1 : Int) (l1 : (List Int)) : Option ((Int × (List Int)) ⊕ ((Tsawmillref05_Reader × (List Int)) ⊕ (Int × (List Int)))) :=
 (bif (decide ((WU64 ((l1.length : Nat) : Int)) < nv.1)) then (Option.bind (r05_signed_g vr.S_ vnext1 low high) (fun sv => (bif (sv.2.2 != 0) then (letB (r05_fail_g vr sv.2.2) (fun fv3 => some (Sum.inr (Sum.inl (fv3, []))))) else (Option.bind (appO 8 l1 ([sv.1])) (fun l2 => some (Sum.inl (sv.2.1, l2))))))) else some (Sum.inr (Sum.inr (vnext1, l1))))
noncomputable def r05_ReadInts_g (vr : Tsawmillref05_Reader) (most : Int) (low : Int) (high : Int) : Option (Tsawmillref05_Reader × (List Int)) :=
 (bif (vr.E != 0) then some (vr, []) else (Option.bind (r05_number_g vr.S_ vr.At) (fun nv => (bif (nv.2.2 != 0) then (letB (r05_fail_g vr nv.2.2) (fun fv => some (fv, []))) else (bif (decide (most < 0)) then (letB (r05_fail_g vr 4) (fun fv1 => some (fv1, []))) else (bif (decide ((WU64 most) < nv.1)) then (letB (r05_fail_g vr 4) (fun fv2 => some (fv2, []))) else (Option.bind ((loopO (fun q => r05_ReadInts_s1 vr low high nv q.1 q.2) (nv.2.1, ([] : List Int))) : Option ((Tsawmillref05_Reader × (List Int)) ⊕ (Int × (List Int)))) (Sum.elim (fun q => some q) (fun w1 => some ((⟨vr.S_, w1.1, vr.E⟩ : Tsawmillref05_Reader), w1.2))))))))))
theorem r05_ReadInts_w (vr : Tsawmillref05_Reader) (most : Int) (low : Int) (high : Int) (r : (Tsawmillref05_Reader × (List Int))) (h : r05_ReadInts_g vr most low high = some r) : Holds Tryz.prog 68 [(encTsawmillref05_Reader vr), (I most), (I low), (I high)] [] (.tup [(encTsawmillref05_Reader r.1), ((encL I) r.2)]) [] := by
 unfold r05_ReadInts_g at h
 refine holds_fn Tryz.func68 rfl Tryz.ntmps68 rfl rfl rfl (fun lim => ?_)
 refine awp_seq (awp_go hmix (go_run' ttok 3 rfl (go_nil nd (then_norm (awp_seq (awp_seq (awp_go hmix (go_run' ttok 3 rfl (go_nil nd (then_norm ?_))))))))))
 refine awp_cond (b := (vr.E != 0)) rfl (fun c1 => ?_) (fun c1 => ?_)
 ·replace h := of_bif_t h c1
  refine awp_seq (awp_go hmix (go_run' ttok 3 rfl (go_nil nd (then_norm (awp_ret (then_ret ?_))))))
  have e2 := of_some h
  subst e2
  refine ret_ret ?_
  refine fin0 ttok rfl rfl ?_
  exact ⟨(wkP_refl _ rfl), wkP_nilm, trivial⟩
 ·replace h := of_bif_f h c1
  refine awp_skip (then_norm (awp_seq (awp_go hmix (go_run' ttok 4 rfl ?_))))
  obtain ⟨nv, hv3, h⟩ := of_obind h
  refine go_call fn116 (r05_number_w vr.S_ vr.At nv hv3) rfl rfl rfl rfl rfl rfl rfl ?_
  refine go_run' ttok 7 rfl (go_nil nd (then_norm (awp_seq (awp_seq (awp_go hmix (go_run' ttok 2 rfl (go_nil nd (then_norm ?_))))))))
  refine awp_cond (b := (nv.2.2 != 0)) rfl (fun c4 => ?_) (fun c4 => ?_)
  ·replace h := of_bif_t h c4
   refine awp_seq (awp_go hmix (go_run' ttok 2 rfl ?_))
   obtain ⟨fv, hv5, h⟩ := of_let h
   refine go_call fn117 (r05_fail_w vr nv.2.2 fv hv5) rfl rfl rfl rfl rfl rfl rfl ?_
   refine go_run' ttok 2 rfl (go_nil nd (then_norm (awp_ret (then_ret ?_))))
   have e6 := of_some h
   subst e6
   refine ret_ret ?_
   refine fin0 ttok rfl rfl ?_
   exact ⟨(wkP_refl _ rfl), wkP_nilm, trivial⟩
  ·replace h := of_bif_f h c4
   refine awp_skip (then_norm (awp_seq (awp_seq (awp_go hmix (go_run' ttok 3 rfl ?_)))))
   refine go_gcase rfl rfl rfl (fun g7 => ?_) (fun g7 => ?_)
   ·rw [g7]
    replace h := of_bif_t h g7
    refine go_run' ttok 5 rfl (go_nil nd (then_norm ?_))
    refine awp_cond rfl (fun tt0 => ?_) (fun h => by cases h)
    clear tt0
    refine awp_seq (awp_go hmix (go_run' ttok 1 rfl ?_))
    obtain ⟨fv1, hv8, h⟩ := of_let h
    refine go_call fn117 (r05_fail_w vr 4 fv1 hv8) rfl rfl rfl rfl rfl rfl rfl ?_
    refine go_run' ttok 2 rfl (go_nil nd (then_norm (awp_ret (then_ret ?_))))
    have e9 := of_some h
    subst e9
    refine ret_ret ?_
    refine fin0 ttok rfl rfl ?_
    exact ⟨(wkP_refl _ rfl), wkP_nilm, trivial⟩
   ·rw [g7]
    replace h := of_bif_f h g7
    refine go_run' ttok 5 rfl (go_nil nd (then_norm ?_))
    refine awp_cond (b := (decide ((WU64 most) < nv.1))) rfl (fun c10 => ?_) (fun c10 => ?_)
    ·replace h := of_bif_t h c10
     refine awp_seq (awp_go hmix (go_run' ttok 1 rfl ?_))
     obtain ⟨fv2, hv11, h⟩ := of_let h
     refine go_call fn117 (r05_fail_w vr 4 fv2 hv11) rfl rfl rfl rfl rfl rfl rfl ?_
     refine go_run' ttok 2 rfl (go_nil nd (then_norm (awp_ret (then_ret ?_))))
     have e12 := of_some h
     subst e12
     refine ret_ret ?_
     refine fin0 ttok rfl rfl ?_
     exact ⟨(wkP_refl _ rfl), wkP_nilm, trivial⟩
    ·replace h := of_bif_f h c10
     refine awp_skip (then_norm (awp_seq (awp_go hmix (go_run' ttok 2 rfl (go_nil nd (then_norm ?_))))))
     obtain ⟨y, hx13, h⟩ := of_obind h
     refine awp_seqJ (X := (Int × (List Int))) [4, 8] [4, 8] (fun w => [(11, (I w.1)), (13, (.arr 13 0 w.2.length))]) (fun w => [(13, some ⟨3, 1, w.2.map I⟩)]) (fun w => Sum.inr w = y) rfl rfl ?_ ?_
     ·skip
      refine awp_block ?_
      refine awp_loopD (X := (Int × (List Int))) (Y := ((Tsawmillref05_Reader × (List Int)) ⊕ (Int × (List Int)))) [2, 3, 4, 8, 10] [4, 8] (fun q => [(11, (I q.1)), (13, (.arr 13 0 q.2.length))]) (fun q => [(13, some ⟨3, 1, q.2.map I⟩)]) (fun q => r05_ReadInts_s1 vr low high nv q.1 q.2) (nv.2.1, ([] : List Int)) [(13, some 45), (4, some 4), (8, some 8)] hx13 ⟨rfl, rfl, rfl, rfl, rfl, ⟨wkP_id _ rfl, ⟨rfl, rfl, (by first | rfl | (simp [setI]; done) | omega | (dsimp only; omega) | (simp [setI]; omega))⟩, trivial⟩, ⟨⟨_, rfl, rfl, rfl, wkX_map (enc := I) ([] : List Int) (fun _ => rfl)⟩, trivial⟩⟩ (fun x vR vz hz15 hk16 => ?_)
      obtain ⟨vnext1, l1⟩ := x
      change r05_ReadInts_s1 vr low high nv vnext1 l1 = _ at hz15
      unfold r05_ReadInts_s1 at hz15
      refine awp_seq (awp_seq (awp_go hmix (go_run' ttok 5 rfl (go_nil nd (then_norm ?_)))))
      refine awp_cond (b := (decide ((WU64 ((l1.length : Nat) : Int)) < nv.1))) rfl (fun c17 => ?_) (fun c17 => ?_)
      ·replace hz15 := of_bif_t hz15 c17
       refine awp_skip (then_norm (awp_block (awp_seq (awp_go hmix (go_run' ttok 5 rfl ?_)))))
       obtain ⟨sv, hv18, hz15⟩ := of_obind hz15
       refine go_call fn118 (r05_signed_w vr.S_ vnext1 low high sv hv18) rfl rfl rfl rfl rfl rfl rfl ?_
       refine go_run' ttok 7 rfl (go_nil nd (then_norm (awp_seq (awp_seq (awp_go hmix (go_run' ttok 2 rfl (go_nil nd (then_norm ?_))))))))
       refine awp_cond (b := (sv.2.2 != 0)) rfl (fun c19 => ?_) (fun c19 => ?_)
       ·replace hz15 := of_bif_t hz15 c19
        refine awp_seq (awp_go hmix (go_run' ttok 2 rfl ?_))
        obtain ⟨fv3, hv20, hz15⟩ := of_let hz15
        refine go_call fn117 (r05_fail_w vr sv.2.2 fv3 hv20) rfl rfl rfl rfl rfl rfl rfl ?_
        refine go_run' ttok 2 rfl (go_nil nd (then_norm (awp_ret (then_ret (block_ret ?_)))))
        obtain ⟨t, hn21, hq⟩ := of_mapr' hz15
        subst hq
        have hq : t = _ := hk16
        subst hq
        refine then_ret (block_ret ?_)
        obtain ⟨t1, hn22, hq⟩ := of_mapl' hn21
        subst hq
        have hq := of_inl h
        replace hq := of_some hq
        subst hq
        refine then_ret ?_
        have e23 := of_some hn22
        subst e23
        refine ret_ret ?_
        refine fin0 ttok rfl rfl ?_
        exact ⟨(wkP_refl _ rfl), wkP_nilm, trivial⟩
       ·replace hz15 := of_bif_f hz15 c19
        refine awp_skip (then_norm (awp_seq (awp_go hmix (go_run' ttok 3 rfl ?_))))
        obtain ⟨l2, hv24, hz15⟩ := of_obind hz15
        refine go_appT I l1 ([sv.1]) l2 hv24 (fun _ => rfl) (by first | rfl | (simp [setI]; done) | omega | (dsimp only; omega) | (simp [setI]; omega)) (by first | rfl | (simp [setI]; done) | omega | (dsimp only; omega) | (simp [setI]; omega)) ttok rfl rfl rfl rfl rfl rfl rfl rfl rfl rfl rfl rfl rfl rfl rfl rfl rfl ?_
        refine go_run' ttok 1 rfl (go_nil nd (then_norm (awp_go hmix (go_run' ttok 2 rfl (go_nil nd (block_norm ?_))))))
        have e25 := of_some hz15
        subst e25
        refine then_norm ⟨rfl, (sv.2.1, l2), [(13, some 69), (4, some 4), (8, some 8)], ⟨rfl, rfl, rfl, rfl, rfl, ⟨wkP_id _ rfl, ⟨rfl, rfl, (by first | rfl | (simp [setI]; done) | omega | (dsimp only; omega) | (simp [setI]; omega))⟩, trivial⟩, ⟨⟨_, rfl, rfl, rfl, wkX_map (enc := I) l2 (fun _ => rfl)⟩, trivial⟩⟩, hk16⟩
      ·replace hz15 := of_bif_f hz15 c17
       refine awp_exit (then_exit ?_)
       obtain ⟨t2, hn26, hq⟩ := of_mapr' hz15
       subst hq
       have hq : t2 = _ := hk16
       subst hq
       refine then_exit (block_here ?_)
       have e27 := of_some hn26
       refine then_norm ⟨rfl, (vnext1, l1), [(13, some 13), (4, some 4), (8, some 8)], ⟨rfl, rfl, rfl, rfl, rfl, ⟨wkP_id _ rfl, ⟨rfl, rfl, (by first | rfl | (simp [setI]; done) | omega | (dsimp only; omega) | (simp [setI]; omega))⟩, trivial⟩, ⟨⟨_, rfl, rfl, rfl, wkX_map (enc := I) l1 (fun _ => rfl)⟩, trivial⟩⟩, e27⟩
     ·intro w hw14
      subst hw14
      replace h := of_inr h
      obtain ⟨vnext, l⟩ := w
      refine awp_seq (awp_go hmix (go_run' ttok 3 rfl (go_nil nd (then_norm (awp_seq (awp_go hmix (go_run' ttok 4 rfl (go_nil nd (then_norm ?_)))))))))
      refine awp_freezeM [8] [8] [(13, some ⟨3, 1, l.map I⟩)] [(8, some 8)] [(9, (encL I l))] [] rfl rfl rfl rfl rfl ⟨rfl, by decide, trivial⟩ ⟨(wkP_lend rfl (by first | rfl | (simp [setI]; done) | omega | (dsimp only; omega) | (simp [setI]; omega)) (fun _ => rfl)), trivial⟩ trivial ?_
      refine awp_ret ?_
      have e28 := of_some h
      subst e28
      refine ret_ret ?_
      refine fin0 ttok rfl rfl ?_
      exact wkP_refl _ rfl
noncomputable def r05_Left_g (vr : Tsawmillref05_Reader) : Int :=
 (W64 (((vr.S_.size : Nat) : Int) - vr.At))
theorem r05_Left_w (vr : Tsawmillref05_Reader) (r : Int) (h : r05_Left_g vr = r) : Holds Tryz.prog 119 [(encTsawmillref05_Reader vr)] [] (I r) [] := by
 unfold r05_Left_g at h
 refine holds_fn Tryz.func119 rfl Tryz.ntmps119 rfl rfl rfl (fun lim => ?_)
 refine awp_seq (awp_go hmix (go_run' ttok 2 rfl (go_nil nd (then_norm (awp_seq (awp_go hmix (go_run' ttok 7 rfl (go_nil nd (then_norm (awp_ret ?_))))))))))
 have e1 := h
 subst e1
 refine ret_ret ?_
 refine fin0 ttok rfl rfl ?_
 exact (wkP_refl _ rfl)
noncomputable def r05_End_g (vr : Tsawmillref05_Reader) : Int :=
 (bif (vr.E == 0) then (bif (decide (0 < (r05_Left_g vr))) then 4 else vr.E) else vr.E)
theorem r05_End_w (vr : Tsawmillref05_Reader) (r : Int) (h : r05_End_g vr = r) : Holds Tryz.prog 69 [(encTsawmillref05_Reader vr)] [] (I r) [] := by
 unfold r05_End_g at h
 refine holds_fn Tryz.func69 rfl Tryz.ntmps69 rfl rfl rfl (fun lim => ?_)
 refine awp_seq (awp_go hmix (go_run' ttok 2 rfl (go_nil nd (then_norm (awp_seq (awp_seq (awp_go hmix (go_run' ttok 4 rfl ?_))))))))
 refine go_gcase rfl rfl rfl (fun g1 => ?_) (fun g1 => ?_)
 ·rw [g1]
  replace h := of_bif_t h g1
  refine go_run' ttok 1 rfl ?_
  refine go_call fn119 (r05_Left_w vr _ rfl) rfl rfl rfl rfl rfl rfl rfl ?_
  refine go_run' ttok 2 rfl (go_nil nd (then_norm ?_))
  refine awp_cond (b := (decide (0 < (r05_Left_g vr)))) rfl (fun c2 => ?_) (fun c2 => ?_)
  ·replace h := of_bif_t h c2
   refine awp_seq (awp_go hmix (go_run' ttok 1 rfl (go_nil nd (then_norm (awp_ret (then_ret ?_))))))
   have e3 := h
   subst e3
   refine ret_ret ?_
   refine fin0 ttok rfl rfl ?_
   exact (wkP_refl _ rfl)
  ·replace h := of_bif_f h c2
   refine awp_skip (then_norm (awp_seq (awp_go hmix (go_run' ttok 3 rfl (go_nil nd (then_norm (awp_ret ?_)))))))
   have e4 := h
   subst e4
   refine ret_ret ?_
   refine fin0 ttok rfl rfl ?_
   exact (wkP_refl _ rfl)
 ·rw [g1]
  replace h := of_bif_f h g1
  refine go_run' ttok 4 rfl (go_nil nd (then_norm ?_))
  refine awp_cond rfl (fun h => by cases h) (fun tt0 => ?_)
  clear tt0
  refine awp_skip (then_norm (awp_seq (awp_go hmix (go_run' ttok 3 rfl (go_nil nd (then_norm (awp_ret ?_)))))))
  have e5 := h
  subst e5
  refine ret_ret ?_
  refine fin0 ttok rfl rfl ?_
  exact (wkP_refl _ rfl)
noncomputable def r30_span_g (l : (List Int)) (vat : Int) : Option Sp :=
 (Option.bind (getI l vat) (fun e => (Option.bind (getI l (W64 (vat + 1))) (fun e1 => some (⟨e, e1⟩ : Sp)))))
theorem r30_span_w (l : (List Int)) (vat : Int) (r : Sp) (h : r30_span_g l vat = some r) : Holds Tryz.prog 120 [((encL I) l), (I vat)] [] (encSp r) [] := by
 unfold r30_span_g at h
 refine holds_fn Tryz.func120 rfl Tryz.ntmps120 rfl rfl rfl (fun lim => ?_)
 refine awp_seq (awp_go hmix (go_run' ttok 1 rfl (go_nil nd (then_norm (awp_seq (awp_go hmix (go_run' ttok 2 rfl ?_)))))))
 obtain ⟨e, hv1, h⟩ := of_obind h
 refine go_indexT I l vat e hv1 ttok rfl rfl rfl rfl rfl rfl rfl rfl rfl ?_
 refine go_run' ttok 4 rfl ?_
 obtain ⟨e1, hv2, h⟩ := of_obind h
 refine go_indexT I l (W64 (vat + 1)) e1 hv2 ttok rfl rfl rfl rfl rfl rfl rfl rfl rfl ?_
 refine go_run' ttok 3 rfl ?_
 refine go_nil (fun _ => by kernel_rfl) ?_
 refine then_norm (awp_ret ?_)
 have e3 := of_some h
 subst e3
 refine ret_ret ?_
 refine fin0 ttok rfl rfl ?_
 exact (wkP_refl _ rfl)
noncomputable def r30_box_g (l : (List Int)) (vat : Int) : Option Bx :=
 (Option.bind (r30_span_g l vat) (fun sv => (Option.bind (r30_span_g l (W64 (vat + 2))) (fun sv1 => (Option.bind (r30_span_g l (W64 (vat + 4))) (fun sv2 => some (⟨sv, sv1, sv2⟩ : Bx)))))))
theorem r30_box_w (l : (List Int)) (vat : Int) (r : Bx) (h : r30_box_g l vat = some r) : Holds Tryz.prog 70 [((encL I) l), (I vat)] [] (encBx r) [] := by
 unfold r30_box_g at h
 refine holds_fn Tryz.func70 rfl Tryz.ntmps70 rfl rfl rfl (fun lim => ?_)
 refine awp_seq (awp_go hmix (go_run' ttok 1 rfl (go_nil nd (then_norm (awp_seq (awp_go hmix (go_run' ttok 2 rfl ?_)))))))
 obtain ⟨sv, hv1, h⟩ := of_obind h
 refine go_call fn120 (r30_span_w l vat sv hv1) rfl rfl rfl rfl rfl rfl rfl ?_
 refine go_run' ttok 3 rfl ?_
 obtain ⟨sv1, hv2, h⟩ := of_obind h
 refine go_call fn120 (r30_span_w l (W64 (vat + 2)) sv1 hv2) rfl rfl rfl rfl rfl rfl rfl ?_
 refine go_run' ttok 3 rfl ?_
 obtain ⟨sv2, hv3, h⟩ := of_obind h
 refine go_call fn120 (r30_span_w l (W64 (vat + 4)) sv2 hv3) rfl rfl rfl rfl rfl rfl rfl ?_
 refine go_run' ttok 2 rfl (go_nil nd (then_norm (awp_ret ?_)))
 have e4 := of_some h
 subst e4
 refine ret_ret ?_
 refine fin0 ttok rfl rfl ?_
 exact (wkP_refl _ rfl)
noncomputable def r30_Decode_s1 (rv4 : (Tsawmillref05_Reader × (List Int))) (i : Int) (b18 : ByteArray) (b19 : ByteArray) (b20 : ByteArray) (b21 : Int) (b22 : Int) (b23 : Int) (b24 : Int) (b25 : Int) (b26 : Int) (b27 : Int) (b28 : Int) (b29 : (List Df)) (b30 : Int) (b31 : Int) (b32 : Int) (b33 : Int) (b34 : Bool) (b35 : Int) : Option ((Int × ByteArray × ByteArray × ByteArray × Int × Int × Int × Int × Int × Int × Int × Int × (List Df) × Int × Int × Int × Int × Bool × Int) ⊕ (ByteArray × ByteArray × ByteArray × Int × Int × Int × Int × Int × Int × Int × Int × (List Df) × Int × Int × Int × Int × Bool × Int)) :=
 (bif (decide (i < ((rv4.2.length : Nat) : Int))) then (Option.bind (getI rv4.2 i) (fun e10 => (Option.bind (r30_box_g rv4.2 (W64 (i + 1))) (fun bv1 => (Option.bind (appO 56 b29 ([(⟨e10, bv1⟩ : Df)])) (fun l => some (Sum.inl ((W64 (i + 7)), b18, b19, b20, b21, b22, b23, b24, b25, b26, b27, b28, l, b30, b31, b32, b33, b34, b35)))))))) else some (Sum.inr (b18, b19, b20, b21, b22, b23, b24, b25, b26, b27, b28, b29, b30, b31, b32, b33, b34, b35)))
noncomputable def r30_Decode_g (s : ByteArray) : Option (TBoard × Int) :=
 (letB (r05_NewReader_g s) (fun nv => (Option.bind (r05_ReadText_g nv 16) (fun rv => (Option.bind (r05_ReadText_g rv.1 16) (fun rv1 => (Option.bind (r05_ReadText_g rv1.1 16) (fun rv2 => (Option.bind (r05_ReadInts_g rv2.1 14 (-1099511627776) 1099511627776) (fun rv3 => (Option.bind (r05_ReadInts_g rv3.1 448 (-1099511627776) 1099511627776) (fun rv4 => (Option.bind ((bif ((r05_End_g rv4.1) != 0) then some (Sum.inl ((⟨(⟨#[]⟩ : ByteArray), (⟨#[]⟩ : ByteArray), (⟨#[]⟩ : ByteArray), 0, (⟨(⟨0, 0⟩ : Sp), (⟨0, 0⟩ : Sp), (⟨0, 0⟩ : Sp)⟩ : Bx), 0, [], 0, (⟨0, 0, 0⟩ : TCell), false, 0⟩ : TBoard), 5)) else (bif (((rv3.2.length : Nat) : Int) != 14) then some (Sum.inl ((⟨(⟨#[]⟩ : ByteArray), (⟨#[]⟩ : ByteArray), (⟨#[]⟩ : ByteArray), 0, (⟨(⟨0, 0⟩ : Sp), (⟨0, 0⟩ : Sp), (⟨0, 0⟩ : Sp)⟩ : Bx), 0, [], 0, (⟨0, 0, 0⟩ : TCell), false, 0⟩ : TBoard), 5)) else (bif ((Int.tmod ((rv4.2.length : Nat) : Int) 7) != 0) then some (Sum.inl ((⟨(⟨#[]⟩ : ByteArray), (⟨#[]⟩ : ByteArray), (⟨#[]⟩ : ByteArray), 0, (⟨(⟨0, 0⟩ : Sp), (⟨0, 0⟩ : Sp), (⟨0, 0⟩ : Sp)⟩ : Bx), 0, [], 0, (⟨0, 0, 0⟩ : TCell), false, 0⟩ : TBoard), 5)) else (Option.bind (getI rv3.2 12) (fun e => (bif (e != 0) then (Option.bind (getI rv3.2 12) (fun e1 => (bif (e1 != 1) then some (Sum.inl ((⟨(⟨#[]⟩ : ByteArray), (⟨#[]⟩ : ByteArray), (⟨#[]⟩ : ByteArray), 0, (⟨(⟨0, 0⟩ : Sp), (⟨0, 0⟩ : Sp), (⟨0, 0⟩ : Sp)⟩ : Bx), 0, [], 0, (⟨0, 0, 0⟩ : TCell), false, 0⟩ : TBoard), 5)) else some (Sum.inr ())))) else some (Sum.inr ()))))))) : Option ((TBoard × Int) ⊕ Unit)) (Sum.elim (fun q => some q) (fun _ => (Option.bind (getI rv3.2 0) (fun e2 => (Option.bind (r30_box_g rv3.2 1) (fun bv => (Option.bind (getI rv3.2 7) (fun e3 => (Option.bind (getI rv3.2 8) (fun e4 => (Option.bind (getI rv3.2 9) (fun e5 => (Option.bind (getI rv3.2 10) (fun e6 => (Option.bind (getI rv3.2 11) (fun e7 => (Option.bind (getI rv3.2 12) (fun e8 => (Option.bind (getI rv3.2 13) (fun e9 => (Option.bind ((loopO (fun q => r30_Decode_s1 rv4 q.1 q.2.1 q.2.2.1 q.2.2.2.1 q.2.2.2.2.1 q.2.2.2.2.2.1 q.2.2.2.2.2.2.1 q.2.2.2.2.2.2.2.1 q.2.2.2.2.2.2.2.2.1 q.2.2.2.2.2.2.2.2.2.1 q.2.2.2.2.2.2.2.2.2.2.1 q.2.2.2.2.2.2.2.2.2.2.2.1 q.2.2.2.2.2.2.2.2.2.2.2.2.1 q.2.2.2.2.2.2.2.2.2.2.2.2.2.1 q.2.2.2.2.2.2.2.2.2.2.2.2.2.2.1 q.2.2.2.2.2.2.2.2.2.2.2.2.2.2.2.1 q.2.2.2.2.2.2.2.2.2.2.2.2.2.2.2.2.1 q.2.2.2.2.2.2.2.2.2.2.2.2.2.2.2.2.2.1 q.2.2.2.2.2.2.2.2.2.2.2.2.2.2.2.2.2.2) (0, rv.2, rv1.2, rv2.2, e2, bv.x.a, bv.x.b, bv.y.a, bv.y.b, bv.z.a, bv.z.b, e3, [], e4, e5, e6, e7, (e8 == 1), e9)) : Option (ByteArray × ByteArray × ByteArray × Int × Int × Int × Int × Int × Int × Int × Int × (List Df) × Int × Int × Int × Int × Bool × Int)) (fun w2 => some ((⟨w2.1, w2.2.1, w2.2.2.1, w2.2.2.2.1, (⟨(⟨w2.2.2.2.2.1, w2.2.2.2.2.2.1⟩ : Sp), (⟨w2.2.2.2.2.2.2.1, w2.2.2.2.2.2.2.2.1⟩ : Sp), (⟨w2.2.2.2.2.2.2.2.2.1, w2.2.2.2.2.2.2.2.2.2.1⟩ : Sp)⟩ : Bx), w2.2.2.2.2.2.2.2.2.2.2.1, w2.2.2.2.2.2.2.2.2.2.2.2.1, w2.2.2.2.2.2.2.2.2.2.2.2.2.1, (⟨w2.2.2.2.2.2.2.2.2.2.2.2.2.2.1, w2.2.2.2.2.2.2.2.2.2.2.2.2.2.2.1, w2.2.2.2.2.2.2.2.2.2.2.2.2.2.2.2.1⟩ : TCell), w2.2.2.2.2.2.2.2.2.2.2.2.2.2.2.2.2.1, w2.2.2.2.2.2.2.2.2.2.2.2.2.2.2.2.2.2⟩ : TBoard), 0))))))))))))))))))))))))))))))))))))
theorem r30_Decode_w (s : ByteArray) (r : (TBoard × Int)) (h : r30_Decode_g s = some r) : Holds Tryz.prog 19 [(S s)] [] (.tup [(encTBoard r.1), (I r.2)]) [] := by
 unfold r30_Decode_g at h
 refine holds_fn Tryz.func19 rfl Tryz.ntmps19 rfl rfl rfl (fun lim => ?_)
 refine awp_seq (awp_go hmix (go_run' ttok 2 rfl (go_nil nd (then_norm (awp_seq (awp_go hmix (go_run' ttok 1 rfl ?_)))))))
 obtain ⟨nv, hv1, h⟩ := of_let h
 refine go_call fn67 (r05_NewReader_w s nv hv1) rfl rfl rfl rfl rfl rfl rfl ?_
 obtain ⟨rv, hv2, h⟩ := of_obind h
 refine go_call fn66 (r05_ReadText_w nv 16 rv hv2) rfl rfl rfl rfl rfl rfl rfl ?_
 refine go_run' ttok 6 rfl (go_nil nd (then_norm (awp_seq (awp_go hmix (go_run' ttok 1 rfl ?_)))))
 obtain ⟨rv1, hv3, h⟩ := of_obind h
 refine go_call fn66 (r05_ReadText_w rv.1 16 rv1 hv3) rfl rfl rfl rfl rfl rfl rfl ?_
 refine go_run' ttok 5 rfl (go_nil nd (then_norm (awp_seq (awp_go hmix (go_run' ttok 1 rfl ?_)))))
 obtain ⟨rv2, hv4, h⟩ := of_obind h
 refine go_call fn66 (r05_ReadText_w rv1.1 16 rv2 hv4) rfl rfl rfl rfl rfl rfl rfl ?_
 refine go_run' ttok 5 rfl (go_nil nd (then_norm (awp_seq (awp_go hmix (go_run' ttok 1 rfl ?_)))))
 obtain ⟨rv3, hv5, h⟩ := of_obind h
 refine go_call fn68 (r05_ReadInts_w rv2.1 14 (-1099511627776) 1099511627776 rv3 hv5) rfl rfl rfl rfl rfl rfl rfl ?_
 refine go_run' ttok 5 rfl (go_nil nd (then_norm (awp_seq (awp_go hmix (go_run' ttok 1 rfl ?_)))))
 obtain ⟨rv4, hv6, h⟩ := of_obind h
 refine go_call fn68 (r05_ReadInts_w rv3.1 448 (-1099511627776) 1099511627776 rv4 hv6) rfl rfl rfl rfl rfl rfl rfl ?_
 refine go_run' ttok 5 rfl (go_nil nd (then_norm ?_))
 obtain ⟨y, hx7, h⟩ := of_obind h
 refine awp_seqJ (X := Unit) [2, 5, 6, 7, 8, 9] [2] (fun _ => []) (fun _ => []) (fun w => Sum.inr w = y) rfl rfl ?_ ?_
 ·skip
  refine awp_seq (awp_go hmix (go_run' ttok 1 rfl ?_))
  refine go_call fn69 (r05_End_w rv4.1 _ rfl) rfl rfl rfl rfl rfl rfl rfl ?_
  refine go_run' ttok 2 rfl ?_
  refine go_gcase rfl rfl rfl (fun g9 => ?_) (fun g9 => ?_)
  ·rw [g9]
   replace hx7 := of_bif_t hx7 g9
   refine go_run' ttok 22 rfl (go_nil nd (then_norm ?_))
   refine awp_cond rfl (fun tt0 => ?_) (fun h => by cases h)
   clear tt0
   refine awp_seq (awp_go hmix (go_run' ttok 3 rfl (go_nil nd (then_norm (awp_ret ?_)))))
   obtain ⟨t, hn10, hq⟩ := of_mapl' hx7
   subst hq
   have hq := of_inl h
   replace hq := of_some hq
   subst hq
   refine then_ret ?_
   have e11 := of_some hn10
   subst e11
   refine ret_ret ?_
   refine fin0 ttok rfl rfl ?_
   exact ⟨⟨(wkP_refl _ rfl), (wkP_refl _ rfl), (wkP_refl _ rfl), (wkP_refl _ rfl), (wkP_refl _ rfl), (wkP_refl _ rfl), (wkP_refl _ rfl), (wkP_refl _ rfl), (wkP_refl _ rfl), (wkP_refl _ rfl), (wkP_refl _ rfl), wkP_nilm, (wkP_refl _ rfl), (wkP_refl _ rfl), (wkP_refl _ rfl), (wkP_refl _ rfl), (wkP_refl _ rfl), (wkP_refl _ rfl), trivial⟩, (wkP_refl _ rfl), trivial⟩
  ·rw [g9]
   replace hx7 := of_bif_f hx7 g9
   refine go_run' ttok 1 rfl ?_
   refine go_lenT I rv3.2 ttok rfl rfl rfl rfl rfl rfl ?_
   refine go_run' ttok 3 rfl ?_
   refine go_gcase rfl rfl rfl (fun g12 => ?_) (fun g12 => ?_)
   ·rw [g12]
    replace hx7 := of_bif_t hx7 g12
    refine go_run' ttok 17 rfl (go_nil nd (then_norm ?_))
    refine awp_cond rfl (fun tt0 => ?_) (fun h => by cases h)
    clear tt0
    refine awp_seq (awp_go hmix (go_run' ttok 3 rfl (go_nil nd (then_norm (awp_ret ?_)))))
    obtain ⟨t1, hn13, hq⟩ := of_mapl' hx7
    subst hq
    have hq := of_inl h
    replace hq := of_some hq
    subst hq
    refine then_ret ?_
    have e14 := of_some hn13
    subst e14
    refine ret_ret ?_
    refine fin0 ttok rfl rfl ?_
    exact ⟨⟨(wkP_refl _ rfl), (wkP_refl _ rfl), (wkP_refl _ rfl), (wkP_refl _ rfl), (wkP_refl _ rfl), (wkP_refl _ rfl), (wkP_refl _ rfl), (wkP_refl _ rfl), (wkP_refl _ rfl), (wkP_refl _ rfl), (wkP_refl _ rfl), wkP_nilm, (wkP_refl _ rfl), (wkP_refl _ rfl), (wkP_refl _ rfl), (wkP_refl _ rfl), (wkP_refl _ rfl), (wkP_refl _ rfl), trivial⟩, (wkP_refl _ rfl), trivial⟩
   ·rw [g12]
    replace hx7 := of_bif_f hx7 g12
    refine go_run' ttok 1 rfl ?_
    refine go_lenT I rv4.2 ttok rfl rfl rfl rfl rfl rfl ?_
    refine go_run' ttok 4 rfl ?_
    refine go_gcase rfl rfl rfl (fun g15 => ?_) (fun g15 => ?_)
    ·rw [g15]
     replace hx7 := of_bif_t hx7 g15
     refine go_run' ttok 11 rfl (go_nil nd (then_norm ?_))
     refine awp_cond rfl (fun tt0 => ?_) (fun h => by cases h)
     clear tt0
     refine awp_seq (awp_go hmix (go_run' ttok 3 rfl (go_nil nd (then_norm (awp_ret ?_)))))
     obtain ⟨t2, hn16, hq⟩ := of_mapl' hx7
     subst hq
     have hq := of_inl h
     replace hq := of_some hq
     subst hq
     refine then_ret ?_
     have e17 := of_some hn16
     subst e17
     refine ret_ret ?_
     refine fin0 ttok rfl rfl ?_
     exact ⟨⟨(wkP_refl _ rfl), (wkP_refl _ rfl), (wkP_refl _ rfl), (wkP_refl _ rfl), (wkP_refl _ rfl), (wkP_refl _ rfl), (wkP_refl _ rfl), (wkP_refl _ rfl), (wkP_refl _ rfl), (wkP_refl _ rfl), (wkP_refl _ rfl), wkP_nilm, (wkP_refl _ rfl), (wkP_refl _ rfl), (wkP_refl _ rfl), (wkP_refl _ rfl), (wkP_refl _ rfl), (wkP_refl _ rfl), trivial⟩, (wkP_refl _ rfl), trivial⟩
    ·rw [g15]
     replace hx7 := of_bif_f hx7 g15
     refine go_run' ttok 1 rfl ?_
     obtain ⟨e, hv18, hx7⟩ := of_obind hx7
     refine go_indexT I rv3.2 12 e hv18 ttok rfl rfl rfl rfl rfl rfl rfl rfl rfl ?_
     refine go_run' ttok 3 rfl ?_
     refine go_gcase rfl rfl rfl (fun g19 => ?_) (fun g19 => ?_)
     ·rw [g19]
      replace hx7 := of_bif_t hx7 g19
      refine go_run' ttok 1 rfl ?_
      obtain ⟨e1, hv20, hx7⟩ := of_obind hx7
      refine go_indexT I rv3.2 12 e1 hv20 ttok rfl rfl rfl rfl rfl rfl rfl rfl rfl ?_
      refine go_run' ttok 4 rfl (go_nil nd (then_norm ?_))
      refine awp_cond (b := (e1 != 1)) rfl (fun c21 => ?_) (fun c21 => ?_)
      ·replace hx7 := of_bif_t hx7 c21
       refine awp_seq (awp_go hmix (go_run' ttok 3 rfl (go_nil nd (then_norm (awp_ret ?_)))))
       obtain ⟨t3, hn22, hq⟩ := of_mapl' hx7
       subst hq
       have hq := of_inl h
       replace hq := of_some hq
       subst hq
       refine then_ret ?_
       have e23 := of_some hn22
       subst e23
       refine ret_ret ?_
       refine fin0 ttok rfl rfl ?_
       exact ⟨⟨(wkP_refl _ rfl), (wkP_refl _ rfl), (wkP_refl _ rfl), (wkP_refl _ rfl), (wkP_refl _ rfl), (wkP_refl _ rfl), (wkP_refl _ rfl), (wkP_refl _ rfl), (wkP_refl _ rfl), (wkP_refl _ rfl), (wkP_refl _ rfl), wkP_nilm, (wkP_refl _ rfl), (wkP_refl _ rfl), (wkP_refl _ rfl), (wkP_refl _ rfl), (wkP_refl _ rfl), (wkP_refl _ rfl), trivial⟩, (wkP_refl _ rfl), trivial⟩
      ·replace hx7 := of_bif_f hx7 c21
       refine awp_skip ?_
       have e24 := of_some hx7
       refine then_norm ⟨rfl, (), [(2, some 2)], ⟨rfl, rfl, rfl, rfl, rfl, trivial, trivial⟩, e24⟩
     ·rw [g19]
      replace hx7 := of_bif_f hx7 g19
      refine go_run' ttok 6 rfl (go_nil nd (then_norm ?_))
      refine awp_cond rfl (fun h => by cases h) (fun tt0 => ?_)
      clear tt0
      refine awp_skip ?_
      have e25 := of_some hx7
      refine then_norm ⟨rfl, (), [(2, some 2)], ⟨rfl, rfl, rfl, rfl, rfl, trivial, trivial⟩, e25⟩
 ·intro w hw8
  subst hw8
  replace h := of_inr h
  refine awp_seq (awp_go hmix (go_run' ttok 4 rfl ?_))
  obtain ⟨e2, hv26, h⟩ := of_obind h
  refine go_indexT I rv3.2 0 e2 hv26 ttok rfl rfl rfl rfl rfl rfl rfl rfl rfl ?_
  refine go_run' ttok 2 rfl ?_
  obtain ⟨bv, hv27, h⟩ := of_obind h
  refine go_call fn70 (r30_box_w rv3.2 1 bv hv27) rfl rfl rfl rfl rfl rfl rfl ?_
  refine go_run' ttok 1 rfl ?_
  obtain ⟨e3, hv28, h⟩ := of_obind h
  refine go_indexT I rv3.2 7 e3 hv28 ttok rfl rfl rfl rfl rfl rfl rfl rfl rfl ?_
  refine go_run' ttok 2 rfl ?_
  obtain ⟨e4, hv29, h⟩ := of_obind h
  refine go_indexT I rv3.2 8 e4 hv29 ttok rfl rfl rfl rfl rfl rfl rfl rfl rfl ?_
  refine go_run' ttok 2 rfl ?_
  obtain ⟨e5, hv30, h⟩ := of_obind h
  refine go_indexT I rv3.2 9 e5 hv30 ttok rfl rfl rfl rfl rfl rfl rfl rfl rfl ?_
  refine go_run' ttok 2 rfl ?_
  obtain ⟨e6, hv31, h⟩ := of_obind h
  refine go_indexT I rv3.2 10 e6 hv31 ttok rfl rfl rfl rfl rfl rfl rfl rfl rfl ?_
  refine go_run' ttok 2 rfl ?_
  obtain ⟨e7, hv32, h⟩ := of_obind h
  refine go_indexT I rv3.2 11 e7 hv32 ttok rfl rfl rfl rfl rfl rfl rfl rfl rfl ?_
  refine go_run' ttok 3 rfl ?_
  obtain ⟨e8, hv33, h⟩ := of_obind h
  refine go_indexT I rv3.2 12 e8 hv33 ttok rfl rfl rfl rfl rfl rfl rfl rfl rfl ?_
  refine go_run' ttok 3 rfl ?_
  obtain ⟨e9, hv34, h⟩ := of_obind h
  refine go_indexT I rv3.2 13 e9 hv34 ttok rfl rfl rfl rfl rfl rfl rfl rfl rfl ?_
  refine go_run' ttok 4 rfl ?_
  refine go_nil (fun _ => by kernel_rfl) ?_
  refine then_norm ?_
  obtain ⟨y1, hx35, h⟩ := of_obind h
  refine awp_seqJ (X := (ByteArray × ByteArray × ByteArray × Int × Int × Int × Int × Int × Int × Int × Int × (List Df) × Int × Int × Int × Int × Bool × Int)) [2, 10] [2] (fun w1 => []) (fun w1 => [(990, some ⟨71, 7, w1.2.2.2.2.2.2.2.2.2.2.2.1.map encDf⟩), (10, some ⟨30, 18, [(.agg [(S w1.1), (S w1.2.1), (S w1.2.2.1), (I w1.2.2.2.1), (I w1.2.2.2.2.1), (I w1.2.2.2.2.2.1), (I w1.2.2.2.2.2.2.1), (I w1.2.2.2.2.2.2.2.1), (I w1.2.2.2.2.2.2.2.2.1), (I w1.2.2.2.2.2.2.2.2.2.1), (I w1.2.2.2.2.2.2.2.2.2.2.1), (.arr 990 0 w1.2.2.2.2.2.2.2.2.2.2.2.1.length), (I w1.2.2.2.2.2.2.2.2.2.2.2.2.1), (I w1.2.2.2.2.2.2.2.2.2.2.2.2.2.1), (I w1.2.2.2.2.2.2.2.2.2.2.2.2.2.2.1), (I w1.2.2.2.2.2.2.2.2.2.2.2.2.2.2.2.1), (B w1.2.2.2.2.2.2.2.2.2.2.2.2.2.2.2.2.1), (I w1.2.2.2.2.2.2.2.2.2.2.2.2.2.2.2.2.2)])]⟩)]) (fun w1 => w1 = y1) rfl rfl ?_ ?_
  ·skip
   refine awp_seq (awp_go hmix (go_run' ttok 1 rfl (go_nil nd (then_norm (awp_block ?_)))))
   refine awp_loopD (X := (Int × ByteArray × ByteArray × ByteArray × Int × Int × Int × Int × Int × Int × Int × Int × (List Df) × Int × Int × Int × Int × Bool × Int)) (Y := (ByteArray × ByteArray × ByteArray × Int × Int × Int × Int × Int × Int × Int × Int × (List Df) × Int × Int × Int × Int × Bool × Int)) [2, 9, 10] [2] (fun q => [(11, (I q.1))]) (fun q => [(990, some ⟨71, 7, q.2.2.2.2.2.2.2.2.2.2.2.2.1.map encDf⟩), (10, some ⟨30, 18, [(.agg [(S q.2.1), (S q.2.2.1), (S q.2.2.2.1), (I q.2.2.2.2.1), (I q.2.2.2.2.2.1), (I q.2.2.2.2.2.2.1), (I q.2.2.2.2.2.2.2.1), (I q.2.2.2.2.2.2.2.2.1), (I q.2.2.2.2.2.2.2.2.2.1), (I q.2.2.2.2.2.2.2.2.2.2.1), (I q.2.2.2.2.2.2.2.2.2.2.2.1), (.arr 990 0 q.2.2.2.2.2.2.2.2.2.2.2.2.1.length), (I q.2.2.2.2.2.2.2.2.2.2.2.2.2.1), (I q.2.2.2.2.2.2.2.2.2.2.2.2.2.2.1), (I q.2.2.2.2.2.2.2.2.2.2.2.2.2.2.2.1), (I q.2.2.2.2.2.2.2.2.2.2.2.2.2.2.2.2.1), (B q.2.2.2.2.2.2.2.2.2.2.2.2.2.2.2.2.2.1), (I q.2.2.2.2.2.2.2.2.2.2.2.2.2.2.2.2.2.2)])]⟩)]) (fun q => r30_Decode_s1 rv4 q.1 q.2.1 q.2.2.1 q.2.2.2.1 q.2.2.2.2.1 q.2.2.2.2.2.1 q.2.2.2.2.2.2.1 q.2.2.2.2.2.2.2.1 q.2.2.2.2.2.2.2.2.1 q.2.2.2.2.2.2.2.2.2.1 q.2.2.2.2.2.2.2.2.2.2.1 q.2.2.2.2.2.2.2.2.2.2.2.1 q.2.2.2.2.2.2.2.2.2.2.2.2.1 q.2.2.2.2.2.2.2.2.2.2.2.2.2.1 q.2.2.2.2.2.2.2.2.2.2.2.2.2.2.1 q.2.2.2.2.2.2.2.2.2.2.2.2.2.2.2.1 q.2.2.2.2.2.2.2.2.2.2.2.2.2.2.2.2.1 q.2.2.2.2.2.2.2.2.2.2.2.2.2.2.2.2.2.1 q.2.2.2.2.2.2.2.2.2.2.2.2.2.2.2.2.2.2) (0, rv.2, rv1.2, rv2.2, e2, bv.x.a, bv.x.b, bv.y.a, bv.y.b, bv.z.a, bv.z.b, e3, [], e4, e5, e6, e7, (e8 == 1), e9) [(990, none), (10, some 10), (2, some 2)] hx35 ⟨rfl, rfl, rfl, rfl, rfl, ⟨wkP_id _ rfl, trivial⟩, ⟨rfl, ⟨_, rfl, rfl, rfl, .inr ⟨⟨⟨wkP_id _ rfl, wkP_id _ rfl, wkP_id _ rfl, wkP_id _ rfl, wkP_id _ rfl, wkP_id _ rfl, wkP_id _ rfl, wkP_id _ rfl, wkP_id _ rfl, wkP_id _ rfl, wkP_id _ rfl, ⟨rfl, rfl, (by first | rfl | (simp [setI]; done) | omega | (dsimp only; omega) | (simp [setI]; omega))⟩, wkP_id _ rfl, wkP_id _ rfl, wkP_id _ rfl, wkP_id _ rfl, wkP_id _ rfl, wkP_id _ rfl, trivial⟩, trivial⟩, ⟨rfl, trivial⟩⟩⟩, trivial⟩⟩ (fun x vR vz hz37 hk38 => ?_)
   obtain ⟨i, b18, b19, b20, b21, b22, b23, b24, b25, b26, b27, b28, b29, b30, b31, b32, b33, b34, b35⟩ := x
   change r30_Decode_s1 rv4 i b18 b19 b20 b21 b22 b23 b24 b25 b26 b27 b28 b29 b30 b31 b32 b33 b34 b35 = _ at hz37
   unfold r30_Decode_s1 at hz37
   refine awp_seq (awp_seq (awp_go hmix (go_run' ttok 2 rfl ?_)))
   refine go_lenT I rv4.2 ttok rfl rfl rfl rfl rfl rfl ?_
   refine go_run' ttok 1 rfl (go_nil nd (then_norm ?_))
   refine awp_cond (b := (decide (i < ((rv4.2.length : Nat) : Int)))) rfl (fun c39 => ?_) (fun c39 => ?_)
   ·replace hz37 := of_bif_t hz37 c39
    refine awp_skip (then_norm (awp_seq (awp_block (awp_go hmix (go_run' ttok 4 rfl ?_)))))
    obtain ⟨e10, hv40, hz37⟩ := of_obind hz37
    refine go_indexT I rv4.2 i e10 hv40 ttok rfl rfl rfl rfl rfl rfl rfl rfl rfl ?_
    refine go_run' ttok 4 rfl ?_
    obtain ⟨bv1, hv41, hz37⟩ := of_obind hz37
    refine go_call fn70 (r30_box_w rv4.2 (W64 (i + 1)) bv1 hv41) rfl rfl rfl rfl rfl rfl rfl ?_
    refine go_run' ttok 2 rfl ?_
    obtain ⟨l, hv42, hz37⟩ := of_obind hz37
    refine go_appT encDf b29 ([(⟨e10, bv1⟩ : Df)]) l hv42 (fun _ => rfl) (by first | rfl | (simp [setI]; done) | omega | (dsimp only; omega) | (simp [setI]; omega)) (by first | rfl | (simp [setI]; done) | omega | (dsimp only; omega) | (simp [setI]; omega)) ttok rfl rfl rfl rfl rfl rfl rfl rfl rfl rfl rfl rfl rfl rfl rfl rfl rfl ?_
    refine go_run' ttok 2 rfl ?_
    refine go_nil (fun _ => by kernel_rfl) ?_
    refine block_norm (then_norm (awp_go hmix (go_run' ttok 3 rfl (go_nil nd ?_))))
    have e43 := of_some hz37
    subst e43
    refine then_norm ⟨rfl, ((W64 (i + 7)), b18, b19, b20, b21, b22, b23, b24, b25, b26, b27, b28, l, b30, b31, b32, b33, b34, b35), [(990, some 115), (10, some 10), (2, some 2)], ⟨rfl, rfl, rfl, rfl, rfl, ⟨wkP_id _ rfl, trivial⟩, ⟨⟨_, rfl, rfl, rfl, wkX_map (enc := encDf) l (fun _ => rfl)⟩, ⟨_, rfl, rfl, rfl, .inr ⟨⟨⟨wkP_id _ rfl, wkP_id _ rfl, wkP_id _ rfl, wkP_id _ rfl, wkP_id _ rfl, wkP_id _ rfl, wkP_id _ rfl, wkP_id _ rfl, wkP_id _ rfl, wkP_id _ rfl, wkP_id _ rfl, ⟨rfl, rfl, (by first | rfl | (simp [setI]; done) | omega | (dsimp only; omega) | (simp [setI]; omega))⟩, wkP_id _ rfl, wkP_id _ rfl, wkP_id _ rfl, wkP_id _ rfl, wkP_id _ rfl, wkP_id _ rfl, trivial⟩, trivial⟩, ⟨rfl, trivial⟩⟩⟩, trivial⟩⟩, hk38⟩
   ·replace hz37 := of_bif_f hz37 c39
    refine awp_exit (then_exit ?_)
    obtain ⟨t4, hn44, hq⟩ := of_mapr' hz37
    subst hq
    have hq : t4 = _ := hk38
    subst hq
    refine then_exit (block_here ?_)
    have e45 := of_some hn44
    refine then_norm ⟨rfl, (b18, b19, b20, b21, b22, b23, b24, b25, b26, b27, b28, b29, b30, b31, b32, b33, b34, b35), [(990, some 990), (10, some 10), (2, some 2)], ⟨rfl, rfl, rfl, rfl, rfl, trivial, ⟨⟨_, rfl, rfl, rfl, wkX_map (enc := encDf) b29 (fun _ => rfl)⟩, ⟨_, rfl, rfl, rfl, .inr ⟨⟨⟨wkP_id _ rfl, wkP_id _ rfl, wkP_id _ rfl, wkP_id _ rfl, wkP_id _ rfl, wkP_id _ rfl, wkP_id _ rfl, wkP_id _ rfl, wkP_id _ rfl, wkP_id _ rfl, wkP_id _ rfl, ⟨rfl, rfl, (by first | rfl | (simp [setI]; done) | omega | (dsimp only; omega) | (simp [setI]; omega))⟩, wkP_id _ rfl, wkP_id _ rfl, wkP_id _ rfl, wkP_id _ rfl, wkP_id _ rfl, wkP_id _ rfl, trivial⟩, trivial⟩, ⟨rfl, trivial⟩⟩⟩, trivial⟩⟩, e45⟩
  ·intro w1 hw36
   subst hw36
   obtain ⟨b, b1, b2, b3, b4, b5, b6, b7, b8, b9, b10, b11, b12, b13, b14, b15, b16, b17⟩ := w1
   refine awp_seq (awp_go hmix (go_run' ttok 3 rfl (go_nil nd (then_norm ?_))))
   refine awp_freezeM [2, 3] [] [(990, some ⟨71, 7, b11.map encDf⟩)] [(2, some 2)] [] [(2, some ⟨30, 18, [(.agg [(S b), (S b1), (S b2), (I b3), (I b4), (I b5), (I b6), (I b7), (I b8), (I b9), (I b10), (encL encDf b11), (I b12), (I b13), (I b14), (I b15), (B b16), (I b17)])]⟩)] rfl rfl rfl rfl rfl ⟨rfl, by decide, trivial⟩ trivial ⟨⟨_, rfl, rfl, rfl, .inr ⟨⟨⟨(wkP_id _ rfl), (wkP_id _ rfl), (wkP_id _ rfl), (wkP_id _ rfl), (wkP_id _ rfl), (wkP_id _ rfl), (wkP_id _ rfl), (wkP_id _ rfl), (wkP_id _ rfl), (wkP_id _ rfl), (wkP_id _ rfl), (wkP_lend rfl (by first | rfl | (simp [setI]; done) | omega | (dsimp only; omega) | (simp [setI]; omega)) (fun _ => rfl)), (wkP_id _ rfl), (wkP_id _ rfl), (wkP_id _ rfl), (wkP_id _ rfl), (wkP_id _ rfl), (wkP_id _ rfl), trivial⟩, trivial⟩, ⟨rfl, trivial⟩⟩⟩, trivial⟩ ?_
   refine awp_ret ?_
   have e46 := of_some h
   subst e46
   refine ret_ret ?_
   refine fin0 ttok rfl rfl ?_
   exact wkP_refl _ rfl
end Go.Proofs.YtpoehckffpbfiaaGreat
