/- A1d: what functions of the program compute (written by mod.py). -/
import Derived.Test.YtmfgheklnjmbjaaA1c
import Derived.KernelRfl
namespace Go.Proofs.Ytmfgheklnjmbjaa
open Go Go.Ab
set_option linter.unusedSimpArgs false
set_option linter.unusedVariables false
set_option maxRecDepth 20000

noncomputable def r05_number_s1 (s : ByteArray) (vat : Int) (n : Int) (vunit : Int) (i : Int) : Option ((Int × Int × Int) ⊕ ((Int × Int × Int) ⊕ Unit)) :=
  (bif (decide (i < 10)) then (bif (decide (((s.size : Nat) : Int) ≤ (W64 (vat + i)))) then some (Sum.inr (Sum.inl (0, vat, 3))) else (Option.bind (bytO s (W64 (vat + i))) (fun c => (Option.bind ((bif (i == 9) then (bif (decide (1 < (WU64 c))) then some (Sum.inl (Sum.inr (Sum.inl (0, vat, 5)))) else some (Sum.inr ())) else some (Sum.inr ())) : Option (((Int × Int × Int) ⊕ ((Int × Int × Int) ⊕ Unit)) ⊕ Unit)) (Sum.elim (fun q => some q) (fun _ => (bif (decide ((WU64 c) < 128)) then (bif ((WU64 c) == 0) then (bif (decide (0 < i)) then some (Sum.inr (Sum.inl (0, vat, 5))) else some (Sum.inr (Sum.inl ((WU64 (n + (WU64 ((Int.tmod (WU64 c) 128) * vunit)))), (W64 ((W64 (vat + i)) + 1)), 0)))) else some (Sum.inr (Sum.inl ((WU64 (n + (WU64 ((Int.tmod (WU64 c) 128) * vunit)))), (W64 ((W64 (vat + i)) + 1)), 0)))) else some (Sum.inl ((WU64 (n + (WU64 ((Int.tmod (WU64 c) 128) * vunit)))), (WU64 (vunit * 128)), (W64 (i + 1))))))))))) else some (Sum.inr (Sum.inr ())))
/-- sawmill/sawmillref05.number -/
noncomputable def r05_number_g (s : ByteArray) (vat : Int) : Option (Int × Int × Int) :=
  (Option.bind ((loopO (fun q => r05_number_s1 s vat q.1 q.2.1 q.2.2) (0, 1, 0)) : Option ((Int × Int × Int) ⊕ Unit)) (Sum.elim (fun q => some q) (fun _ => some (0, vat, 5))))
theorem r05_number_w (s : ByteArray) (vat : Int) (r : (Int × Int × Int)) (h : r05_number_g s vat = some r) : Holds Try.prog 82 [(S s), (I vat)] [] (.tup [(U64 r.1), (I r.2.1), (I r.2.2)]) [] := by
  unfold r05_number_g at h
  refine holds_fn Try.func82 rfl Try.ntmps82 rfl rfl rfl (fun lim => ?_)
  refine awp_seq ?_
  refine awp_go hmix ?_
  refine go_run' ttok 3 rfl ?_
  refine go_nil nd ?_
  refine then_norm ?_
  refine awp_seq ?_
  refine awp_go hmix ?_
  refine go_run' ttok 2 rfl ?_
  refine go_nil nd ?_
  refine then_norm ?_
  obtain ⟨y, hx1, h⟩ := of_obind h
  refine awp_seqJ (X := Unit) [1] [] (fun _ => []) (fun _ => []) (fun w => Sum.inr w = y) rfl rfl ?_ ?_
  · skip
    refine awp_seq ?_
    refine awp_go hmix ?_
    refine go_run' ttok 1 rfl ?_
    refine go_nil nd ?_
    refine then_norm ?_
    refine awp_block ?_
    refine awp_loopD (X := (Int × Int × Int)) (Y := ((Int × Int × Int) ⊕ Unit)) [0, 1] [] (fun q => [(7, (U64 q.1)), (8, (U64 q.2.1)), (9, (I q.2.2))]) (fun q => []) (fun q => r05_number_s1 s vat q.1 q.2.1 q.2.2) (0, 1, 0) [] hx1 ⟨rfl, rfl, rfl, rfl, rfl, ⟨wkP_id _ rfl, wkP_id _ rfl, wkP_id _ rfl, trivial⟩, trivial⟩ (fun x vR vz hz3 hk4 => ?_)
    obtain ⟨n, vunit, i⟩ := x
    change r05_number_s1 s vat n vunit i = _ at hz3
    unfold r05_number_s1 at hz3
    refine awp_seq ?_
    refine awp_seq ?_
    refine awp_go hmix ?_
    refine go_run' ttok 2 rfl ?_
    refine go_nil nd ?_
    refine then_norm ?_
    refine awp_cond (b := (decide (i < 10))) rfl (fun c5 => ?_) (fun c5 => ?_)
    · replace hz3 := of_bif_t hz3 c5
      refine awp_skip ?_
      refine then_norm ?_
      refine awp_seq ?_
      refine awp_block ?_
      refine awp_seq ?_
      refine awp_seq ?_
      refine awp_go hmix ?_
      refine go_run' ttok 6 rfl ?_
      refine go_nil nd ?_
      refine then_norm ?_
      refine awp_cond (b := (decide (((s.size : Nat) : Int) ≤ (W64 (vat + i))))) rfl (fun c6 => ?_) (fun c6 => ?_)
      · replace hz3 := of_bif_t hz3 c6
        refine awp_seq ?_
        refine awp_go hmix ?_
        refine go_run' ttok 4 rfl ?_
        refine go_nil nd ?_
        refine then_norm ?_
        refine awp_ret ?_
        refine then_ret ?_
        refine block_ret ?_
        refine then_ret ?_
        obtain ⟨t, hn7, hq⟩ := of_mapr' hz3
        subst hq
        have hq : t = _ := hk4
        subst hq
        refine then_ret ?_
        refine block_ret ?_
        obtain ⟨t1, hn8, hq⟩ := of_mapl' hn7
        subst hq
        have hq := of_inl h
        replace hq := of_some hq
        subst hq
        refine then_ret ?_
        have e9 := of_some hn8
        subst e9
        refine ret_ret ?_
        refine fin0 ttok rfl rfl ?_
        exact wkP_refl _ rfl
      · replace hz3 := of_bif_f hz3 c6
        refine awp_skip ?_
        refine then_norm ?_
        refine awp_seq ?_
        refine awp_go hmix ?_
        refine go_run' ttok 4 rfl ?_
        obtain ⟨c, hv10, hz3⟩ := of_obind hz3
        refine go_indexB s (W64 (vat + i)) c hv10 ttok rfl rfl rfl rfl rfl rfl rfl ?_
        refine go_run' ttok 2 rfl ?_
        refine go_nil nd ?_
        refine then_norm ?_
        obtain ⟨y1, hx11, hz3⟩ := of_obind hz3
        refine awp_seqJ (X := Unit) [0, 1, 7, 8, 9, 10] [] (fun _ => []) (fun _ => []) (fun w1 => Sum.inr w1 = y1) rfl rfl ?_ ?_
        · skip
          refine awp_seq ?_
          refine awp_go hmix ?_
          refine go_run' ttok 3 rfl ?_
          refine go_gcase rfl rfl rfl (fun g13 => ?_) (fun g13 => ?_)
          · rw [g13]
            replace hx11 := of_bif_t hx11 g13
            refine go_run' ttok 3 rfl ?_
            refine go_nil nd ?_
            refine then_norm ?_
            refine awp_cond (b := (decide (1 < (WU64 c)))) rfl (fun c14 => ?_) (fun c14 => ?_)
            · replace hx11 := of_bif_t hx11 c14
              refine awp_seq ?_
              refine awp_go hmix ?_
              refine go_run' ttok 4 rfl ?_
              refine go_nil nd ?_
              refine then_norm ?_
              refine awp_ret ?_
              obtain ⟨t2, hn15, hq⟩ := of_mapl' hx11
              subst hq
              have hq := of_inl hz3
              replace hq := of_some hq
              subst hq
              refine then_ret ?_
              refine block_ret ?_
              refine then_ret ?_
              obtain ⟨t3, hn16, hq⟩ := of_mapr' hn15
              subst hq
              have hq : t3 = _ := hk4
              subst hq
              refine then_ret ?_
              refine block_ret ?_
              obtain ⟨t4, hn17, hq⟩ := of_mapl' hn16
              subst hq
              have hq := of_inl h
              replace hq := of_some hq
              subst hq
              refine then_ret ?_
              have e18 := of_some hn17
              subst e18
              refine ret_ret ?_
              refine fin0 ttok rfl rfl ?_
              exact wkP_refl _ rfl
            · replace hx11 := of_bif_f hx11 c14
              refine awp_skip ?_
              have e19 := of_some hx11
              refine then_norm ⟨rfl, (), [], ⟨rfl, rfl, rfl, rfl, rfl, trivial, trivial⟩, e19⟩
          · rw [g13]
            replace hx11 := of_bif_f hx11 g13
            refine go_run' ttok 3 rfl ?_
            refine go_nil nd ?_
            refine then_norm ?_
            refine awp_cond rfl (fun h => by cases h) (fun tt0 => ?_)
            clear tt0
            refine awp_skip ?_
            have e20 := of_some hx11
            refine then_norm ⟨rfl, (), [], ⟨rfl, rfl, rfl, rfl, rfl, trivial, trivial⟩, e20⟩
        · intro w1 hw12
          subst hw12
          replace hz3 := of_inr hz3
          refine awp_seq ?_
          refine awp_go hmix ?_
          refine go_run' ttok 7 rfl ?_
          refine go_nil nd ?_
          refine then_norm ?_
          refine awp_seq ?_
          refine awp_go hmix ?_
          refine go_run' ttok 3 rfl ?_
          refine go_nil nd ?_
          refine then_norm ?_
          refine awp_seq ?_
          refine awp_go hmix ?_
          refine go_run' ttok 2 rfl ?_
          refine go_nil nd ?_
          refine then_norm ?_
          refine awp_cond (b := (decide ((WU64 c) < 128))) rfl (fun c21 => ?_) (fun c21 => ?_)
          · replace hz3 := of_bif_t hz3 c21
            refine awp_seq ?_
            refine awp_seq ?_
            refine awp_go hmix ?_
            refine go_run' ttok 3 rfl ?_
            refine go_gcase rfl rfl rfl (fun g22 => ?_) (fun g22 => ?_)
            · rw [g22]
              replace hz3 := of_bif_t hz3 g22
              refine go_run' ttok 3 rfl ?_
              refine go_nil nd ?_
              refine then_norm ?_
              refine awp_cond (b := (decide (0 < i))) rfl (fun c23 => ?_) (fun c23 => ?_)
              · replace hz3 := of_bif_t hz3 c23
                refine awp_seq ?_
                refine awp_go hmix ?_
                refine go_run' ttok 4 rfl ?_
                refine go_nil nd ?_
                refine then_norm ?_
                refine awp_ret ?_
                refine then_ret ?_
                refine block_ret ?_
                refine then_ret ?_
                obtain ⟨t5, hn24, hq⟩ := of_mapr' hz3
                subst hq
                have hq : t5 = _ := hk4
                subst hq
                refine then_ret ?_
                refine block_ret ?_
                obtain ⟨t6, hn25, hq⟩ := of_mapl' hn24
                subst hq
                have hq := of_inl h
                replace hq := of_some hq
                subst hq
                refine then_ret ?_
                have e26 := of_some hn25
                subst e26
                refine ret_ret ?_
                refine fin0 ttok rfl rfl ?_
                exact wkP_refl _ rfl
              · replace hz3 := of_bif_f hz3 c23
                refine awp_skip ?_
                refine then_norm ?_
                refine awp_seq ?_
                refine awp_go hmix ?_
                refine go_run' ttok 8 rfl ?_
                refine go_nil nd ?_
                refine then_norm ?_
                refine awp_ret ?_
                refine block_ret ?_
                refine then_ret ?_
                obtain ⟨t7, hn27, hq⟩ := of_mapr' hz3
                subst hq
                have hq : t7 = _ := hk4
                subst hq
                refine then_ret ?_
                refine block_ret ?_
                obtain ⟨t8, hn28, hq⟩ := of_mapl' hn27
                subst hq
                have hq := of_inl h
                replace hq := of_some hq
                subst hq
                refine then_ret ?_
                have e29 := of_some hn28
                subst e29
                refine ret_ret ?_
                refine fin0 ttok rfl rfl ?_
                exact wkP_refl _ rfl
            · rw [g22]
              replace hz3 := of_bif_f hz3 g22
              refine go_run' ttok 3 rfl ?_
              refine go_nil nd ?_
              refine then_norm ?_
              refine awp_cond rfl (fun h => by cases h) (fun tt0 => ?_)
              clear tt0
              refine awp_skip ?_
              refine then_norm ?_
              refine awp_seq ?_
              refine awp_go hmix ?_
              refine go_run' ttok 8 rfl ?_
              refine go_nil nd ?_
              refine then_norm ?_
              refine awp_ret ?_
              refine block_ret ?_
              refine then_ret ?_
              obtain ⟨t9, hn30, hq⟩ := of_mapr' hz3
              subst hq
              have hq : t9 = _ := hk4
              subst hq
              refine then_ret ?_
              refine block_ret ?_
              obtain ⟨t10, hn31, hq⟩ := of_mapl' hn30
              subst hq
              have hq := of_inl h
              replace hq := of_some hq
              subst hq
              refine then_ret ?_
              have e32 := of_some hn31
              subst e32
              refine ret_ret ?_
              refine fin0 ttok rfl rfl ?_
              exact wkP_refl _ rfl
          · replace hz3 := of_bif_f hz3 c21
            refine awp_skip ?_
            refine block_norm ?_
            refine then_norm ?_
            refine awp_go hmix ?_
            refine go_run' ttok 3 rfl ?_
            refine go_nil nd ?_
            have e33 := of_some hz3
            subst e33
            refine then_norm ⟨rfl, ((WU64 (n + (WU64 ((Int.tmod (WU64 c) 128) * vunit)))), (WU64 (vunit * 128)), (W64 (i + 1))), [], ⟨rfl, rfl, rfl, rfl, rfl, ⟨wkP_id _ rfl, wkP_id _ rfl, wkP_id _ rfl, trivial⟩, trivial⟩, hk4⟩
    · replace hz3 := of_bif_f hz3 c5
      refine awp_exit ?_
      refine then_exit ?_
      obtain ⟨t11, hn34, hq⟩ := of_mapr' hz3
      subst hq
      have hq : t11 = _ := hk4
      subst hq
      refine then_exit ?_
      refine block_here ?_
      have e35 := of_some hn34
      refine then_norm ⟨rfl, (), [], ⟨rfl, rfl, rfl, rfl, rfl, trivial, trivial⟩, e35⟩
  · intro w hw2
    subst hw2
    replace h := of_inr h
    refine awp_seq ?_
    refine awp_go hmix ?_
    refine go_run' ttok 4 rfl ?_
    refine go_nil nd ?_
    refine then_norm ?_
    refine awp_ret ?_
    have e36 := of_some h
    subst e36
    refine ret_ret ?_
    refine fin0 ttok rfl rfl ?_
    exact wkP_refl _ rfl

/-- sawmill/sawmillref05.fail -/
noncomputable def r05_fail_g (vr : Tsawmillref05_Reader) (e : Int) : Tsawmillref05_Reader :=
  (⟨vr.S_, vr.At, e⟩ : Tsawmillref05_Reader)
theorem r05_fail_w (vr : Tsawmillref05_Reader) (e : Int) (r : Tsawmillref05_Reader) (h : r05_fail_g vr e = r) : Holds Try.prog 83 [(encTsawmillref05_Reader vr), (I e)] [] (encTsawmillref05_Reader r) [] := by
  unfold r05_fail_g at h
  refine holds_fn Try.func83 rfl Try.ntmps83 rfl rfl rfl (fun lim => ?_)
  refine awp_seq ?_
  refine awp_go hmix ?_
  refine go_run' ttok 2 rfl ?_
  refine go_nil nd ?_
  refine then_norm ?_
  refine awp_seq ?_
  refine awp_go hmix ?_
  refine go_run' ttok 3 rfl ?_
  refine go_nil nd ?_
  refine then_norm ?_
  refine awp_seq ?_
  refine awp_go hmix ?_
  refine go_run' ttok 2 rfl ?_
  refine go_nil nd ?_
  refine then_norm ?_
  refine awp_ret ?_
  have e1 := h
  subst e1
  refine ret_ret ?_
  refine fin0 ttok rfl rfl ?_
  exact (wkP_refl _ rfl)

/-- sawmill/sawmillref05.ReadText -/
noncomputable def r05_ReadText_g (vr : Tsawmillref05_Reader) (most : Int) : Option (Tsawmillref05_Reader × ByteArray) :=
  (bif (vr.E != 0) then some (vr, (⟨#[]⟩ : ByteArray)) else (Option.bind (r05_number_g vr.S_ vr.At) (fun nv => (bif (nv.2.2 != 0) then (letB (r05_fail_g vr nv.2.2) (fun fv => some (fv, (⟨#[]⟩ : ByteArray)))) else (bif (decide (most < 0)) then (letB (r05_fail_g vr 4) (fun fv1 => some (fv1, (⟨#[]⟩ : ByteArray)))) else (bif (decide ((WU64 most) < nv.1)) then (letB (r05_fail_g vr 4) (fun fv2 => some (fv2, (⟨#[]⟩ : ByteArray)))) else (bif (decide ((WU64 (W64 (((vr.S_.size : Nat) : Int) - nv.2.1))) < nv.1)) then (letB (r05_fail_g vr 3) (fun fv3 => some (fv3, (⟨#[]⟩ : ByteArray)))) else (Option.bind (ssubO vr.S_ nv.2.1 (W64 (nv.2.1 + (W64 nv.1)))) (fun t => some ((⟨vr.S_, (W64 (nv.2.1 + (W64 nv.1))), vr.E⟩ : Tsawmillref05_Reader), t))))))))))
theorem r05_ReadText_w (vr : Tsawmillref05_Reader) (most : Int) (r : (Tsawmillref05_Reader × ByteArray)) (h : r05_ReadText_g vr most = some r) : Holds Try.prog 50 [(encTsawmillref05_Reader vr), (I most)] [] (.tup [(encTsawmillref05_Reader r.1), (S r.2)]) [] := by
  unfold r05_ReadText_g at h
  refine holds_fn Try.func50 rfl Try.ntmps50 rfl rfl rfl (fun lim => ?_)
  refine awp_seq ?_
  refine awp_go hmix ?_
  refine go_run' ttok 3 rfl ?_
  refine go_nil nd ?_
  refine then_norm ?_
  refine awp_seq ?_
  refine awp_seq ?_
  refine awp_go hmix ?_
  refine go_run' ttok 3 rfl ?_
  refine go_nil nd ?_
  refine then_norm ?_
  refine awp_cond (b := (vr.E != 0)) rfl (fun c1 => ?_) (fun c1 => ?_)
  · replace h := of_bif_t h c1
    refine awp_seq ?_
    refine awp_go hmix ?_
    refine go_run' ttok 3 rfl ?_
    refine go_nil nd ?_
    refine then_norm ?_
    refine awp_ret ?_
    refine then_ret ?_
    have e2 := of_some h
    subst e2
    refine ret_ret ?_
    refine fin0 ttok rfl rfl ?_
    exact wkP_refl _ rfl
  · replace h := of_bif_f h c1
    refine awp_skip ?_
    refine then_norm ?_
    refine awp_seq ?_
    refine awp_go hmix ?_
    refine go_run' ttok 4 rfl ?_
    obtain ⟨nv, hv3, h⟩ := of_obind h
    refine go_call fn82 (r05_number_w vr.S_ vr.At nv hv3) rfl rfl rfl rfl rfl rfl rfl ?_
    refine go_run' ttok 7 rfl ?_
    refine go_nil nd ?_
    refine then_norm ?_
    refine awp_seq ?_
    refine awp_seq ?_
    refine awp_go hmix ?_
    refine go_run' ttok 2 rfl ?_
    refine go_nil nd ?_
    refine then_norm ?_
    refine awp_cond (b := (nv.2.2 != 0)) rfl (fun c4 => ?_) (fun c4 => ?_)
    · replace h := of_bif_t h c4
      refine awp_seq ?_
      refine awp_go hmix ?_
      refine go_run' ttok 2 rfl ?_
      obtain ⟨fv, hv5, h⟩ := of_let h
      refine go_call fn83 (r05_fail_w vr nv.2.2 fv hv5) rfl rfl rfl rfl rfl rfl rfl ?_
      refine go_run' ttok 2 rfl ?_
      refine go_nil nd ?_
      refine then_norm ?_
      refine awp_ret ?_
      refine then_ret ?_
      have e6 := of_some h
      subst e6
      refine ret_ret ?_
      refine fin0 ttok rfl rfl ?_
      exact wkP_refl _ rfl
    · replace h := of_bif_f h c4
      refine awp_skip ?_
      refine then_norm ?_
      refine awp_seq ?_
      refine awp_seq ?_
      refine awp_go hmix ?_
      refine go_run' ttok 3 rfl ?_
      refine go_gcase rfl rfl rfl (fun g7 => ?_) (fun g7 => ?_)
      · rw [g7]
        replace h := of_bif_t h g7
        refine go_run' ttok 5 rfl ?_
        refine go_nil nd ?_
        refine then_norm ?_
        refine awp_cond rfl (fun tt0 => ?_) (fun h => by cases h)
        clear tt0
        refine awp_seq ?_
        refine awp_go hmix ?_
        refine go_run' ttok 1 rfl ?_
        obtain ⟨fv1, hv8, h⟩ := of_let h
        refine go_call fn83 (r05_fail_w vr 4 fv1 hv8) rfl rfl rfl rfl rfl rfl rfl ?_
        refine go_run' ttok 2 rfl ?_
        refine go_nil nd ?_
        refine then_norm ?_
        refine awp_ret ?_
        refine then_ret ?_
        have e9 := of_some h
        subst e9
        refine ret_ret ?_
        refine fin0 ttok rfl rfl ?_
        exact wkP_refl _ rfl
      · rw [g7]
        replace h := of_bif_f h g7
        refine go_run' ttok 5 rfl ?_
        refine go_nil nd ?_
        refine then_norm ?_
        refine awp_cond (b := (decide ((WU64 most) < nv.1))) rfl (fun c10 => ?_) (fun c10 => ?_)
        · replace h := of_bif_t h c10
          refine awp_seq ?_
          refine awp_go hmix ?_
          refine go_run' ttok 1 rfl ?_
          obtain ⟨fv2, hv11, h⟩ := of_let h
          refine go_call fn83 (r05_fail_w vr 4 fv2 hv11) rfl rfl rfl rfl rfl rfl rfl ?_
          refine go_run' ttok 2 rfl ?_
          refine go_nil nd ?_
          refine then_norm ?_
          refine awp_ret ?_
          refine then_ret ?_
          have e12 := of_some h
          subst e12
          refine ret_ret ?_
          refine fin0 ttok rfl rfl ?_
          exact wkP_refl _ rfl
        · replace h := of_bif_f h c10
          refine awp_skip ?_
          refine then_norm ?_
          refine awp_seq ?_
          refine awp_seq ?_
          refine awp_go hmix ?_
          refine go_run' ttok 8 rfl ?_
          refine go_nil nd ?_
          refine then_norm ?_
          refine awp_cond (b := (decide ((WU64 (W64 (((vr.S_.size : Nat) : Int) - nv.2.1))) < nv.1))) rfl (fun c13 => ?_) (fun c13 => ?_)
          · replace h := of_bif_t h c13
            refine awp_seq ?_
            refine awp_go hmix ?_
            refine go_run' ttok 1 rfl ?_
            obtain ⟨fv3, hv14, h⟩ := of_let h
            refine go_call fn83 (r05_fail_w vr 3 fv3 hv14) rfl rfl rfl rfl rfl rfl rfl ?_
            refine go_run' ttok 2 rfl ?_
            refine go_nil nd ?_
            refine then_norm ?_
            refine awp_ret ?_
            refine then_ret ?_
            have e15 := of_some h
            subst e15
            refine ret_ret ?_
            refine fin0 ttok rfl rfl ?_
            exact wkP_refl _ rfl
          · replace h := of_bif_f h c13
            refine awp_skip ?_
            refine then_norm ?_
            refine awp_seq ?_
            refine awp_go hmix ?_
            refine go_run' ttok 6 rfl ?_
            refine go_nil nd ?_
            refine then_norm ?_
            refine awp_seq ?_
            refine awp_go hmix ?_
            refine go_run' ttok 6 rfl ?_
            obtain ⟨t, hv16, h⟩ := of_obind h
            refine go_sliceS vr.S_ t nv.2.1 (W64 (nv.2.1 + (W64 nv.1))) hv16 ttok rfl rfl rfl rfl rfl ⟨_, rfl⟩ ⟨_, rfl⟩ rfl ?_
            refine go_run' ttok 2 rfl ?_
            refine go_nil (fun _ => by kernel_rfl) ?_
            refine then_norm ?_
            refine awp_ret ?_
            have e17 := of_some h
            subst e17
            refine ret_ret ?_
            refine fin0 ttok rfl rfl ?_
            exact wkP_refl _ rfl

/-- sawmill/sawmillref05.signed -/
noncomputable def r05_signed_g (s : ByteArray) (vat : Int) (low : Int) (high : Int) : Option (Int × Int × Int) :=
  (Option.bind (r05_number_g s vat) (fun nv => (bif (nv.2.2 != 0) then some (0, vat, nv.2.2) else (letB ((bif ((Int.tmod nv.1 2) == 1) then (W64 ((W64 (0 - (W64 (WU64 (Int.tdiv nv.1 2))))) - 1)) else (W64 (WU64 (Int.tdiv nv.1 2)))) : Int) (fun n => (bif (decide (n < low)) then some (0, vat, 9) else (bif (decide (high < n)) then some (0, vat, 9) else some (n, nv.2.1, 0))))))))
theorem r05_signed_w (s : ByteArray) (vat : Int) (low : Int) (high : Int) (r : (Int × Int × Int)) (h : r05_signed_g s vat low high = some r) : Holds Try.prog 84 [(S s), (I vat), (I low), (I high)] [] (.tup [(I r.1), (I r.2.1), (I r.2.2)]) [] := by
  unfold r05_signed_g at h
  refine holds_fn Try.func84 rfl Try.ntmps84 rfl rfl rfl (fun lim => ?_)
  refine awp_seq ?_
  refine awp_go hmix ?_
  refine go_run' ttok 3 rfl ?_
  refine go_nil nd ?_
  refine then_norm ?_
  refine awp_seq ?_
  refine awp_go hmix ?_
  refine go_run' ttok 2 rfl ?_
  obtain ⟨nv, hv1, h⟩ := of_obind h
  refine go_call fn82 (r05_number_w s vat nv hv1) rfl rfl rfl rfl rfl rfl rfl ?_
  refine go_run' ttok 7 rfl ?_
  refine go_nil nd ?_
  refine then_norm ?_
  refine awp_seq ?_
  refine awp_seq ?_
  refine awp_go hmix ?_
  refine go_run' ttok 2 rfl ?_
  refine go_nil nd ?_
  refine then_norm ?_
  refine awp_cond (b := (nv.2.2 != 0)) rfl (fun c2 => ?_) (fun c2 => ?_)
  · replace h := of_bif_t h c2
    refine awp_seq ?_
    refine awp_go hmix ?_
    refine go_run' ttok 5 rfl ?_
    refine go_nil nd ?_
    refine then_norm ?_
    refine awp_ret ?_
    refine then_ret ?_
    have e3 := of_some h
    subst e3
    refine ret_ret ?_
    refine fin0 ttok rfl rfl ?_
    exact wkP_refl _ rfl
  · replace h := of_bif_f h c2
    refine awp_skip ?_
    refine then_norm ?_
    refine awp_seq ?_
    refine awp_go hmix ?_
    refine go_run' ttok 4 rfl ?_
    refine go_nil nd ?_
    refine then_norm ?_
    obtain ⟨y, hx4, h⟩ := of_let h
    refine awp_seqJ (X := Int) [1, 2, 3, 12] [] (fun w => [(14, (I w))]) (fun w => []) (fun w => w = y) rfl rfl ?_ ?_
    · skip
      refine awp_seq ?_
      refine awp_go hmix ?_
      refine go_run' ttok 3 rfl ?_
      refine go_nil nd ?_
      refine then_norm ?_
      refine awp_cond (b := ((Int.tmod nv.1 2) == 1)) rfl (fun c6 => ?_) (fun c6 => ?_)
      · replace hx4 := of_bif_t hx4 c6
        refine awp_go hmix ?_
        refine go_run' ttok 4 rfl ?_
        refine go_nil nd ?_
        have e7 := hx4
        refine then_norm ⟨rfl, (W64 ((W64 (0 - (W64 (WU64 (Int.tdiv nv.1 2))))) - 1)), [], ⟨rfl, rfl, rfl, rfl, rfl, ⟨wkP_id _ rfl, trivial⟩, trivial⟩, e7⟩
      · replace hx4 := of_bif_f hx4 c6
        refine awp_skip ?_
        have e8 := hx4
        refine then_norm ⟨rfl, (W64 (WU64 (Int.tdiv nv.1 2))), [], ⟨rfl, rfl, rfl, rfl, rfl, ⟨wkP_id _ rfl, trivial⟩, trivial⟩, e8⟩
    · intro n hw5
      subst hw5
      refine awp_seq ?_
      refine awp_seq ?_
      refine awp_go hmix ?_
      refine go_run' ttok 4 rfl ?_
      refine go_gcase rfl rfl rfl (fun g9 => ?_) (fun g9 => ?_)
      · rw [g9]
        replace h := of_bif_t h g9
        refine go_run' ttok 4 rfl ?_
        refine go_nil nd ?_
        refine then_norm ?_
        refine awp_cond rfl (fun tt0 => ?_) (fun h => by cases h)
        clear tt0
        refine awp_seq ?_
        refine awp_go hmix ?_
        refine go_run' ttok 4 rfl ?_
        refine go_nil nd ?_
        refine then_norm ?_
        refine awp_ret ?_
        refine then_ret ?_
        have e10 := of_some h
        subst e10
        refine ret_ret ?_
        refine fin0 ttok rfl rfl ?_
        exact wkP_refl _ rfl
      · rw [g9]
        replace h := of_bif_f h g9
        refine go_run' ttok 4 rfl ?_
        refine go_nil nd ?_
        refine then_norm ?_
        refine awp_cond (b := (decide (high < n))) rfl (fun c11 => ?_) (fun c11 => ?_)
        · replace h := of_bif_t h c11
          refine awp_seq ?_
          refine awp_go hmix ?_
          refine go_run' ttok 4 rfl ?_
          refine go_nil nd ?_
          refine then_norm ?_
          refine awp_ret ?_
          refine then_ret ?_
          have e12 := of_some h
          subst e12
          refine ret_ret ?_
          refine fin0 ttok rfl rfl ?_
          exact wkP_refl _ rfl
        · replace h := of_bif_f h c11
          refine awp_skip ?_
          refine then_norm ?_
          refine awp_seq ?_
          refine awp_go hmix ?_
          refine go_run' ttok 5 rfl ?_
          refine go_nil nd ?_
          refine then_norm ?_
          refine awp_ret ?_
          have e13 := of_some h
          subst e13
          refine ret_ret ?_
          refine fin0 ttok rfl rfl ?_
          exact wkP_refl _ rfl

noncomputable def r05_ReadInts_s1 (vr : Tsawmillref05_Reader) (low : Int) (high : Int) (nv : (Int × Int × Int)) (vnext1 : Int) (l1 : (List Int)) : Option ((Int × (List Int)) ⊕ ((Tsawmillref05_Reader × (List Int)) ⊕ (Int × (List Int)))) :=
  (bif (decide ((WU64 ((l1.length : Nat) : Int)) < nv.1)) then (Option.bind (r05_signed_g vr.S_ vnext1 low high) (fun sv => (bif (sv.2.2 != 0) then (letB (r05_fail_g vr sv.2.2) (fun fv3 => some (Sum.inr (Sum.inl (fv3, []))))) else (Option.bind (appO 8 l1 ([sv.1])) (fun l2 => some (Sum.inl (sv.2.1, l2))))))) else some (Sum.inr (Sum.inr (vnext1, l1))))
/-- sawmill/sawmillref05.ReadInts -/
noncomputable def r05_ReadInts_g (vr : Tsawmillref05_Reader) (most : Int) (low : Int) (high : Int) : Option (Tsawmillref05_Reader × (List Int)) :=
  (bif (vr.E != 0) then some (vr, []) else (Option.bind (r05_number_g vr.S_ vr.At) (fun nv => (bif (nv.2.2 != 0) then (letB (r05_fail_g vr nv.2.2) (fun fv => some (fv, []))) else (bif (decide (most < 0)) then (letB (r05_fail_g vr 4) (fun fv1 => some (fv1, []))) else (bif (decide ((WU64 most) < nv.1)) then (letB (r05_fail_g vr 4) (fun fv2 => some (fv2, []))) else (Option.bind ((loopO (fun q => r05_ReadInts_s1 vr low high nv q.1 q.2) (nv.2.1, ([] : List Int))) : Option ((Tsawmillref05_Reader × (List Int)) ⊕ (Int × (List Int)))) (Sum.elim (fun q => some q) (fun w1 => some ((⟨vr.S_, w1.1, vr.E⟩ : Tsawmillref05_Reader), w1.2))))))))))
theorem r05_ReadInts_w (vr : Tsawmillref05_Reader) (most : Int) (low : Int) (high : Int) (r : (Tsawmillref05_Reader × (List Int))) (h : r05_ReadInts_g vr most low high = some r) : Holds Try.prog 52 [(encTsawmillref05_Reader vr), (I most), (I low), (I high)] [] (.tup [(encTsawmillref05_Reader r.1), ((encL I) r.2)]) [] := by
  unfold r05_ReadInts_g at h
  refine holds_fn Try.func52 rfl Try.ntmps52 rfl rfl rfl (fun lim => ?_)
  refine awp_seq ?_
  refine awp_go hmix ?_
  refine go_run' ttok 3 rfl ?_
  refine go_nil nd ?_
  refine then_norm ?_
  refine awp_seq ?_
  refine awp_seq ?_
  refine awp_go hmix ?_
  refine go_run' ttok 3 rfl ?_
  refine go_nil nd ?_
  refine then_norm ?_
  refine awp_cond (b := (vr.E != 0)) rfl (fun c1 => ?_) (fun c1 => ?_)
  · replace h := of_bif_t h c1
    refine awp_seq ?_
    refine awp_go hmix ?_
    refine go_run' ttok 3 rfl ?_
    refine go_nil nd ?_
    refine then_norm ?_
    refine awp_ret ?_
    refine then_ret ?_
    have e2 := of_some h
    subst e2
    refine ret_ret ?_
    refine fin0 ttok rfl rfl ?_
    exact ⟨(wkP_refl _ rfl), wkP_nilm, trivial⟩
  · replace h := of_bif_f h c1
    refine awp_skip ?_
    refine then_norm ?_
    refine awp_seq ?_
    refine awp_go hmix ?_
    refine go_run' ttok 4 rfl ?_
    obtain ⟨nv, hv3, h⟩ := of_obind h
    refine go_call fn82 (r05_number_w vr.S_ vr.At nv hv3) rfl rfl rfl rfl rfl rfl rfl ?_
    refine go_run' ttok 7 rfl ?_
    refine go_nil nd ?_
    refine then_norm ?_
    refine awp_seq ?_
    refine awp_seq ?_
    refine awp_go hmix ?_
    refine go_run' ttok 2 rfl ?_
    refine go_nil nd ?_
    refine then_norm ?_
    refine awp_cond (b := (nv.2.2 != 0)) rfl (fun c4 => ?_) (fun c4 => ?_)
    · replace h := of_bif_t h c4
      refine awp_seq ?_
      refine awp_go hmix ?_
      refine go_run' ttok 2 rfl ?_
      obtain ⟨fv, hv5, h⟩ := of_let h
      refine go_call fn83 (r05_fail_w vr nv.2.2 fv hv5) rfl rfl rfl rfl rfl rfl rfl ?_
      refine go_run' ttok 2 rfl ?_
      refine go_nil nd ?_
      refine then_norm ?_
      refine awp_ret ?_
      refine then_ret ?_
      have e6 := of_some h
      subst e6
      refine ret_ret ?_
      refine fin0 ttok rfl rfl ?_
      exact ⟨(wkP_refl _ rfl), wkP_nilm, trivial⟩
    · replace h := of_bif_f h c4
      refine awp_skip ?_
      refine then_norm ?_
      refine awp_seq ?_
      refine awp_seq ?_
      refine awp_go hmix ?_
      refine go_run' ttok 3 rfl ?_
      refine go_gcase rfl rfl rfl (fun g7 => ?_) (fun g7 => ?_)
      · rw [g7]
        replace h := of_bif_t h g7
        refine go_run' ttok 5 rfl ?_
        refine go_nil nd ?_
        refine then_norm ?_
        refine awp_cond rfl (fun tt0 => ?_) (fun h => by cases h)
        clear tt0
        refine awp_seq ?_
        refine awp_go hmix ?_
        refine go_run' ttok 1 rfl ?_
        obtain ⟨fv1, hv8, h⟩ := of_let h
        refine go_call fn83 (r05_fail_w vr 4 fv1 hv8) rfl rfl rfl rfl rfl rfl rfl ?_
        refine go_run' ttok 2 rfl ?_
        refine go_nil nd ?_
        refine then_norm ?_
        refine awp_ret ?_
        refine then_ret ?_
        have e9 := of_some h
        subst e9
        refine ret_ret ?_
        refine fin0 ttok rfl rfl ?_
        exact ⟨(wkP_refl _ rfl), wkP_nilm, trivial⟩
      · rw [g7]
        replace h := of_bif_f h g7
        refine go_run' ttok 5 rfl ?_
        refine go_nil nd ?_
        refine then_norm ?_
        refine awp_cond (b := (decide ((WU64 most) < nv.1))) rfl (fun c10 => ?_) (fun c10 => ?_)
        · replace h := of_bif_t h c10
          refine awp_seq ?_
          refine awp_go hmix ?_
          refine go_run' ttok 1 rfl ?_
          obtain ⟨fv2, hv11, h⟩ := of_let h
          refine go_call fn83 (r05_fail_w vr 4 fv2 hv11) rfl rfl rfl rfl rfl rfl rfl ?_
          refine go_run' ttok 2 rfl ?_
          refine go_nil nd ?_
          refine then_norm ?_
          refine awp_ret ?_
          refine then_ret ?_
          have e12 := of_some h
          subst e12
          refine ret_ret ?_
          refine fin0 ttok rfl rfl ?_
          exact ⟨(wkP_refl _ rfl), wkP_nilm, trivial⟩
        · replace h := of_bif_f h c10
          refine awp_skip ?_
          refine then_norm ?_
          refine awp_seq ?_
          refine awp_go hmix ?_
          refine go_run' ttok 2 rfl ?_
          refine go_nil nd ?_
          refine then_norm ?_
          obtain ⟨y, hx13, h⟩ := of_obind h
          refine awp_seqJ (X := (Int × (List Int))) [4, 8] [4, 8] (fun w => [(11, (I w.1)), (13, (.arr 13 0 w.2.length))]) (fun w => [(13, some ⟨3, 1, w.2.map I⟩)]) (fun w => Sum.inr w = y) rfl rfl ?_ ?_
          · skip
            refine awp_block ?_
            refine awp_loopD (X := (Int × (List Int))) (Y := ((Tsawmillref05_Reader × (List Int)) ⊕ (Int × (List Int)))) [2, 3, 4, 8, 10] [4, 8] (fun q => [(11, (I q.1)), (13, (.arr 13 0 q.2.length))]) (fun q => [(13, some ⟨3, 1, q.2.map I⟩)]) (fun q => r05_ReadInts_s1 vr low high nv q.1 q.2) (nv.2.1, ([] : List Int)) [(13, some 45), (4, some 4), (8, some 8)] hx13 ⟨rfl, rfl, rfl, rfl, rfl, ⟨wkP_id _ rfl, ⟨rfl, rfl, (by first | rfl | simp [setI])⟩, trivial⟩, ⟨⟨_, rfl, rfl, rfl, wkX_map (enc := I) ([] : List Int) (fun _ => rfl)⟩, trivial⟩⟩ (fun x vR vz hz15 hk16 => ?_)
            obtain ⟨vnext1, l1⟩ := x
            change r05_ReadInts_s1 vr low high nv vnext1 l1 = _ at hz15
            unfold r05_ReadInts_s1 at hz15
            refine awp_seq ?_
            refine awp_seq ?_
            refine awp_go hmix ?_
            refine go_run' ttok 5 rfl ?_
            refine go_nil nd ?_
            refine then_norm ?_
            refine awp_cond (b := (decide ((WU64 ((l1.length : Nat) : Int)) < nv.1))) rfl (fun c17 => ?_) (fun c17 => ?_)
            · replace hz15 := of_bif_t hz15 c17
              refine awp_skip ?_
              refine then_norm ?_
              refine awp_block ?_
              refine awp_seq ?_
              refine awp_go hmix ?_
              refine go_run' ttok 5 rfl ?_
              obtain ⟨sv, hv18, hz15⟩ := of_obind hz15
              refine go_call fn84 (r05_signed_w vr.S_ vnext1 low high sv hv18) rfl rfl rfl rfl rfl rfl rfl ?_
              refine go_run' ttok 7 rfl ?_
              refine go_nil nd ?_
              refine then_norm ?_
              refine awp_seq ?_
              refine awp_seq ?_
              refine awp_go hmix ?_
              refine go_run' ttok 2 rfl ?_
              refine go_nil nd ?_
              refine then_norm ?_
              refine awp_cond (b := (sv.2.2 != 0)) rfl (fun c19 => ?_) (fun c19 => ?_)
              · replace hz15 := of_bif_t hz15 c19
                refine awp_seq ?_
                refine awp_go hmix ?_
                refine go_run' ttok 2 rfl ?_
                obtain ⟨fv3, hv20, hz15⟩ := of_let hz15
                refine go_call fn83 (r05_fail_w vr sv.2.2 fv3 hv20) rfl rfl rfl rfl rfl rfl rfl ?_
                refine go_run' ttok 2 rfl ?_
                refine go_nil nd ?_
                refine then_norm ?_
                refine awp_ret ?_
                refine then_ret ?_
                refine block_ret ?_
                obtain ⟨t, hn21, hq⟩ := of_mapr' hz15
                subst hq
                have hq : t = _ := hk16
                subst hq
                refine then_ret ?_
                refine block_ret ?_
                obtain ⟨t1, hn22, hq⟩ := of_mapl' hn21
                subst hq
                have hq := of_inl h
                replace hq := of_some hq
                subst hq
                refine then_ret ?_
                have e23 := of_some hn22
                subst e23
                refine ret_ret ?_
                refine fin0 ttok rfl rfl ?_
                exact ⟨(wkP_refl _ rfl), wkP_nilm, trivial⟩
              · replace hz15 := of_bif_f hz15 c19
                refine awp_skip ?_
                refine then_norm ?_
                refine awp_seq ?_
                refine awp_go hmix ?_
                refine go_run' ttok 3 rfl ?_
                obtain ⟨l2, hv24, hz15⟩ := of_obind hz15
                refine go_appT I l1 ([sv.1]) l2 hv24 (fun _ => rfl) (by first | rfl | simp [setI]) (by first | rfl | simp [setI]) ttok rfl rfl rfl rfl rfl rfl rfl rfl rfl rfl rfl rfl rfl rfl rfl rfl rfl ?_
                refine go_run' ttok 1 rfl ?_
                refine go_nil nd ?_
                refine then_norm ?_
                refine awp_go hmix ?_
                refine go_run' ttok 2 rfl ?_
                refine go_nil nd ?_
                refine block_norm ?_
                have e25 := of_some hz15
                subst e25
                refine then_norm ⟨rfl, (sv.2.1, l2), [(13, some 69), (4, some 4), (8, some 8)], ⟨rfl, rfl, rfl, rfl, rfl, ⟨wkP_id _ rfl, ⟨rfl, rfl, (by first | rfl | simp [setI])⟩, trivial⟩, ⟨⟨_, rfl, rfl, rfl, wkX_map (enc := I) l2 (fun _ => rfl)⟩, trivial⟩⟩, hk16⟩
            · replace hz15 := of_bif_f hz15 c17
              refine awp_exit ?_
              refine then_exit ?_
              obtain ⟨t2, hn26, hq⟩ := of_mapr' hz15
              subst hq
              have hq : t2 = _ := hk16
              subst hq
              refine then_exit ?_
              refine block_here ?_
              have e27 := of_some hn26
              refine then_norm ⟨rfl, (vnext1, l1), [(13, some 13), (4, some 4), (8, some 8)], ⟨rfl, rfl, rfl, rfl, rfl, ⟨wkP_id _ rfl, ⟨rfl, rfl, (by first | rfl | simp [setI])⟩, trivial⟩, ⟨⟨_, rfl, rfl, rfl, wkX_map (enc := I) l1 (fun _ => rfl)⟩, trivial⟩⟩, e27⟩
          · intro w hw14
            subst hw14
            replace h := of_inr h
            obtain ⟨vnext, l⟩ := w
            refine awp_seq ?_
            refine awp_go hmix ?_
            refine go_run' ttok 3 rfl ?_
            refine go_nil nd ?_
            refine then_norm ?_
            refine awp_seq ?_
            refine awp_go hmix ?_
            refine go_run' ttok 4 rfl ?_
            refine go_nil nd ?_
            refine then_norm ?_
            refine awp_freezeM [8] [8] [(13, some ⟨3, 1, l.map I⟩)] [(8, some 8)] [(9, (encL I l))] [] rfl rfl rfl rfl rfl ⟨rfl, by decide, trivial⟩ ⟨(wkP_lend rfl (by first | rfl | simp [setI]) (fun _ => rfl)), trivial⟩ trivial ?_
            refine awp_ret ?_
            have e28 := of_some h
            subst e28
            refine ret_ret ?_
            refine fin0 ttok rfl rfl ?_
            exact wkP_refl _ rfl

/-- sawmill/sawmillref05.Left -/
noncomputable def r05_Left_g (vr : Tsawmillref05_Reader) : Int :=
  (W64 (((vr.S_.size : Nat) : Int) - vr.At))
theorem r05_Left_w (vr : Tsawmillref05_Reader) (r : Int) (h : r05_Left_g vr = r) : Holds Try.prog 85 [(encTsawmillref05_Reader vr)] [] (I r) [] := by
  unfold r05_Left_g at h
  refine holds_fn Try.func85 rfl Try.ntmps85 rfl rfl rfl (fun lim => ?_)
  refine awp_seq ?_
  refine awp_go hmix ?_
  refine go_run' ttok 2 rfl ?_
  refine go_nil nd ?_
  refine then_norm ?_
  refine awp_seq ?_
  refine awp_go hmix ?_
  refine go_run' ttok 7 rfl ?_
  refine go_nil nd ?_
  refine then_norm ?_
  refine awp_ret ?_
  have e1 := h
  subst e1
  refine ret_ret ?_
  refine fin0 ttok rfl rfl ?_
  exact (wkP_refl _ rfl)

/-- sawmill/sawmillref05.End -/
noncomputable def r05_End_g (vr : Tsawmillref05_Reader) : Int :=
  (bif (vr.E == 0) then (bif (decide (0 < (r05_Left_g vr))) then 4 else vr.E) else vr.E)
theorem r05_End_w (vr : Tsawmillref05_Reader) (r : Int) (h : r05_End_g vr = r) : Holds Try.prog 53 [(encTsawmillref05_Reader vr)] [] (I r) [] := by
  unfold r05_End_g at h
  refine holds_fn Try.func53 rfl Try.ntmps53 rfl rfl rfl (fun lim => ?_)
  refine awp_seq ?_
  refine awp_go hmix ?_
  refine go_run' ttok 2 rfl ?_
  refine go_nil nd ?_
  refine then_norm ?_
  refine awp_seq ?_
  refine awp_seq ?_
  refine awp_go hmix ?_
  refine go_run' ttok 4 rfl ?_
  refine go_gcase rfl rfl rfl (fun g1 => ?_) (fun g1 => ?_)
  · rw [g1]
    replace h := of_bif_t h g1
    refine go_run' ttok 1 rfl ?_
    refine go_call fn85 (r05_Left_w vr _ rfl) rfl rfl rfl rfl rfl rfl rfl ?_
    refine go_run' ttok 2 rfl ?_
    refine go_nil nd ?_
    refine then_norm ?_
    refine awp_cond (b := (decide (0 < (r05_Left_g vr)))) rfl (fun c2 => ?_) (fun c2 => ?_)
    · replace h := of_bif_t h c2
      refine awp_seq ?_
      refine awp_go hmix ?_
      refine go_run' ttok 1 rfl ?_
      refine go_nil nd ?_
      refine then_norm ?_
      refine awp_ret ?_
      refine then_ret ?_
      have e3 := h
      subst e3
      refine ret_ret ?_
      refine fin0 ttok rfl rfl ?_
      exact (wkP_refl _ rfl)
    · replace h := of_bif_f h c2
      refine awp_skip ?_
      refine then_norm ?_
      refine awp_seq ?_
      refine awp_go hmix ?_
      refine go_run' ttok 3 rfl ?_
      refine go_nil nd ?_
      refine then_norm ?_
      refine awp_ret ?_
      have e4 := h
      subst e4
      refine ret_ret ?_
      refine fin0 ttok rfl rfl ?_
      exact (wkP_refl _ rfl)
  · rw [g1]
    replace h := of_bif_f h g1
    refine go_run' ttok 4 rfl ?_
    refine go_nil nd ?_
    refine then_norm ?_
    refine awp_cond rfl (fun h => by cases h) (fun tt0 => ?_)
    clear tt0
    refine awp_skip ?_
    refine then_norm ?_
    refine awp_seq ?_
    refine awp_go hmix ?_
    refine go_run' ttok 3 rfl ?_
    refine go_nil nd ?_
    refine then_norm ?_
    refine awp_ret ?_
    have e5 := h
    subst e5
    refine ret_ret ?_
    refine fin0 ttok rfl rfl ?_
    exact (wkP_refl _ rfl)

/-- sawmill/sawmillref46.Decode -/
noncomputable def r46_Decode_g (s : ByteArray) : Option (TOrder × Int) :=
  (letB (r05_NewReader_g s) (fun nv => (Option.bind (r05_ReadText_g nv 16) (fun rv => (Option.bind (r05_ReadText_g rv.1 16) (fun rv1 => (Option.bind (r05_ReadInts_g rv1.1 9 (-1099511627776) 1099511627776) (fun rv2 => (bif ((r05_End_g rv2.1) != 0) then some ((⟨(⟨#[]⟩ : ByteArray), (⟨#[]⟩ : ByteArray), 0, 0, 0, 0, 0, 0, 0, 0, 0⟩ : TOrder), 5) else (bif (((rv2.2.length : Nat) : Int) != 9) then some ((⟨(⟨#[]⟩ : ByteArray), (⟨#[]⟩ : ByteArray), 0, 0, 0, 0, 0, 0, 0, 0, 0⟩ : TOrder), 5) else (Option.bind (getI rv2.2 0) (fun e => (Option.bind (getI rv2.2 1) (fun e1 => (Option.bind (getI rv2.2 2) (fun e2 => (Option.bind (getI rv2.2 3) (fun e3 => (Option.bind (getI rv2.2 4) (fun e4 => (Option.bind (getI rv2.2 5) (fun e5 => (Option.bind (getI rv2.2 6) (fun e6 => (Option.bind (getI rv2.2 7) (fun e7 => (Option.bind (getI rv2.2 8) (fun e8 => some ((⟨rv.2, rv1.2, e, e1, e2, e3, e4, e5, e6, e7, e8⟩ : TOrder), 0)))))))))))))))))))))))))))))
theorem r46_Decode_w (s : ByteArray) (r : (TOrder × Int)) (h : r46_Decode_g s = some r) : Holds Try.prog 25 [(S s)] [] (.tup [(encTOrder r.1), (I r.2)]) [] := by
  unfold r46_Decode_g at h
  refine holds_fn Try.func25 rfl Try.ntmps25 rfl rfl rfl (fun lim => ?_)
  refine awp_seq ?_
  refine awp_go hmix ?_
  refine go_run' ttok 2 rfl ?_
  refine go_nil nd ?_
  refine then_norm ?_
  refine awp_seq ?_
  refine awp_go hmix ?_
  refine go_run' ttok 1 rfl ?_
  obtain ⟨nv, hv1, h⟩ := of_let h
  refine go_call fn51 (r05_NewReader_w s nv hv1) rfl rfl rfl rfl rfl rfl rfl ?_
  obtain ⟨rv, hv2, h⟩ := of_obind h
  refine go_call fn50 (r05_ReadText_w nv 16 rv hv2) rfl rfl rfl rfl rfl rfl rfl ?_
  refine go_run' ttok 6 rfl ?_
  refine go_nil nd ?_
  refine then_norm ?_
  refine awp_seq ?_
  refine awp_go hmix ?_
  refine go_run' ttok 1 rfl ?_
  obtain ⟨rv1, hv3, h⟩ := of_obind h
  refine go_call fn50 (r05_ReadText_w rv.1 16 rv1 hv3) rfl rfl rfl rfl rfl rfl rfl ?_
  refine go_run' ttok 5 rfl ?_
  refine go_nil nd ?_
  refine then_norm ?_
  refine awp_seq ?_
  refine awp_go hmix ?_
  refine go_run' ttok 1 rfl ?_
  obtain ⟨rv2, hv4, h⟩ := of_obind h
  refine go_call fn52 (r05_ReadInts_w rv1.1 9 (-1099511627776) 1099511627776 rv2 hv4) rfl rfl rfl rfl rfl rfl rfl ?_
  refine go_run' ttok 5 rfl ?_
  refine go_nil nd ?_
  refine then_norm ?_
  refine awp_seq ?_
  refine awp_seq ?_
  refine awp_go hmix ?_
  refine go_run' ttok 1 rfl ?_
  refine go_call fn53 (r05_End_w rv2.1 _ rfl) rfl rfl rfl rfl rfl rfl rfl ?_
  refine go_run' ttok 2 rfl ?_
  refine go_gcase rfl rfl rfl (fun g5 => ?_) (fun g5 => ?_)
  · rw [g5]
    replace h := of_bif_t h g5
    refine go_run' ttok 4 rfl ?_
    refine go_nil nd ?_
    refine then_norm ?_
    refine awp_cond rfl (fun tt0 => ?_) (fun h => by cases h)
    clear tt0
    refine awp_seq ?_
    refine awp_go hmix ?_
    refine go_run' ttok 3 rfl ?_
    refine go_nil nd ?_
    refine then_norm ?_
    refine awp_ret ?_
    refine then_ret ?_
    have e6 := of_some h
    subst e6
    refine ret_ret ?_
    refine fin0 ttok rfl rfl ?_
    exact wkP_refl _ rfl
  · rw [g5]
    replace h := of_bif_f h g5
    refine go_run' ttok 1 rfl ?_
    refine go_lenT I rv2.2 ttok rfl rfl rfl rfl rfl rfl ?_
    refine go_run' ttok 2 rfl ?_
    refine go_nil nd ?_
    refine then_norm ?_
    refine awp_cond (b := (((rv2.2.length : Nat) : Int) != 9)) rfl (fun c7 => ?_) (fun c7 => ?_)
    · replace h := of_bif_t h c7
      refine awp_seq ?_
      refine awp_go hmix ?_
      refine go_run' ttok 3 rfl ?_
      refine go_nil nd ?_
      refine then_norm ?_
      refine awp_ret ?_
      refine then_ret ?_
      have e8 := of_some h
      subst e8
      refine ret_ret ?_
      refine fin0 ttok rfl rfl ?_
      exact wkP_refl _ rfl
    · replace h := of_bif_f h c7
      refine awp_skip ?_
      refine then_norm ?_
      refine awp_seq ?_
      refine awp_go hmix ?_
      refine go_run' ttok 3 rfl ?_
      obtain ⟨e, hv9, h⟩ := of_obind h
      refine go_indexT I rv2.2 0 e hv9 ttok rfl rfl rfl rfl rfl rfl rfl rfl rfl ?_
      refine go_run' ttok 2 rfl ?_
      obtain ⟨e1, hv10, h⟩ := of_obind h
      refine go_indexT I rv2.2 1 e1 hv10 ttok rfl rfl rfl rfl rfl rfl rfl rfl rfl ?_
      refine go_run' ttok 2 rfl ?_
      obtain ⟨e2, hv11, h⟩ := of_obind h
      refine go_indexT I rv2.2 2 e2 hv11 ttok rfl rfl rfl rfl rfl rfl rfl rfl rfl ?_
      refine go_run' ttok 2 rfl ?_
      obtain ⟨e3, hv12, h⟩ := of_obind h
      refine go_indexT I rv2.2 3 e3 hv12 ttok rfl rfl rfl rfl rfl rfl rfl rfl rfl ?_
      refine go_run' ttok 2 rfl ?_
      obtain ⟨e4, hv13, h⟩ := of_obind h
      refine go_indexT I rv2.2 4 e4 hv13 ttok rfl rfl rfl rfl rfl rfl rfl rfl rfl ?_
      refine go_run' ttok 2 rfl ?_
      obtain ⟨e5, hv14, h⟩ := of_obind h
      refine go_indexT I rv2.2 5 e5 hv14 ttok rfl rfl rfl rfl rfl rfl rfl rfl rfl ?_
      refine go_run' ttok 2 rfl ?_
      obtain ⟨e6, hv15, h⟩ := of_obind h
      refine go_indexT I rv2.2 6 e6 hv15 ttok rfl rfl rfl rfl rfl rfl rfl rfl rfl ?_
      refine go_run' ttok 2 rfl ?_
      obtain ⟨e7, hv16, h⟩ := of_obind h
      refine go_indexT I rv2.2 7 e7 hv16 ttok rfl rfl rfl rfl rfl rfl rfl rfl rfl ?_
      refine go_run' ttok 2 rfl ?_
      obtain ⟨e8, hv17, h⟩ := of_obind h
      refine go_indexT I rv2.2 8 e8 hv17 ttok rfl rfl rfl rfl rfl rfl rfl rfl rfl ?_
      refine go_run' ttok 4 rfl ?_
      refine go_nil (fun _ => by kernel_rfl) ?_
      refine then_norm ?_
      refine awp_ret ?_
      have e18 := of_some h
      subst e18
      refine ret_ret ?_
      refine fin0 ttok rfl rfl ?_
      exact wkP_refl _ rfl

/-- sawmill/sawmilllaw46.OrderTexts -/
noncomputable def l46_OrderTexts_g (o : TOrder) (s : ByteArray) : Option Bool :=
  (bif (decide (1000 < ((s.size : Nat) : Int))) then (Option.bind l46_awake_g (fun av => some av)) else (Option.bind (order_Encode_g o) (fun ev => (Option.bind (r46_Encode_g o) (fun ev1 => (Option.bind (order_Decode_g s) (fun dv => (Option.bind (r46_Decode_g s) (fun dv1 => (bif (bEq ev.1 ev1.1) then (bif (ev.2 == ev1.2) then (bif (eqV encTOrder dv.1 dv1.1) then (bif (dv.2 == dv1.2) then (Option.bind l46_awake_g (fun av1 => some av1)) else some false) else some false) else some false) else some false))))))))))
theorem l46_OrderTexts_w (o : TOrder) (s : ByteArray) (r : Bool) (h : l46_OrderTexts_g o s = some r) : Holds Try.prog 6 [(encTOrder o), (S s)] [] (B r) [] := by
  unfold l46_OrderTexts_g at h
  refine holds_fn Try.func6 rfl Try.ntmps6 rfl rfl rfl (fun lim => ?_)
  refine awp_seq ?_
  refine awp_go hmix ?_
  refine go_run' ttok 2 rfl ?_
  refine go_nil nd ?_
  refine then_norm ?_
  refine awp_seq ?_
  refine awp_seq ?_
  refine awp_go hmix ?_
  refine go_run' ttok 3 rfl ?_
  refine go_nil nd ?_
  refine then_norm ?_
  refine awp_cond (b := (decide (1000 < ((s.size : Nat) : Int)))) rfl (fun c1 => ?_) (fun c1 => ?_)
  · replace h := of_bif_t h c1
    refine awp_seq ?_
    refine awp_go hmix ?_
    obtain ⟨av, hv2, h⟩ := of_obind h
    refine go_call fn11 (l46_awake_w av hv2) rfl rfl rfl rfl rfl rfl rfl ?_
    refine go_run' ttok 1 rfl ?_
    refine go_nil nd ?_
    refine then_norm ?_
    refine awp_ret ?_
    refine then_ret ?_
    have e3 := of_some h
    subst e3
    refine ret_ret ?_
    refine fin0 ttok rfl rfl ?_
    exact (wkP_refl _ rfl)
  · replace h := of_bif_f h c1
    refine awp_skip ?_
    refine then_norm ?_
    refine awp_seq ?_
    refine awp_go hmix ?_
    refine go_run' ttok 1 rfl ?_
    obtain ⟨ev, hv4, h⟩ := of_obind h
    refine go_call fn22 (order_Encode_w o ev hv4) rfl rfl rfl rfl rfl rfl rfl ?_
    refine go_run' ttok 5 rfl ?_
    refine go_nil nd ?_
    refine then_norm ?_
    refine awp_seq ?_
    refine awp_go hmix ?_
    refine go_run' ttok 1 rfl ?_
    obtain ⟨ev1, hv5, h⟩ := of_obind h
    refine go_call fn23 (r46_Encode_w o ev1 hv5) rfl rfl rfl rfl rfl rfl rfl ?_
    refine go_run' ttok 5 rfl ?_
    refine go_nil nd ?_
    refine then_norm ?_
    refine awp_seq ?_
    refine awp_go hmix ?_
    refine go_run' ttok 1 rfl ?_
    obtain ⟨dv, hv6, h⟩ := of_obind h
    refine go_call fn24 (order_Decode_w s dv hv6) rfl rfl rfl rfl rfl rfl rfl ?_
    refine go_run' ttok 6 rfl ?_
    refine go_nil nd ?_
    refine then_norm ?_
    refine awp_seq ?_
    refine awp_go hmix ?_
    refine go_run' ttok 1 rfl ?_
    obtain ⟨dv1, hv7, h⟩ := of_obind h
    refine go_call fn25 (r46_Decode_w s dv1 hv7) rfl rfl rfl rfl rfl rfl rfl ?_
    refine go_run' ttok 6 rfl ?_
    refine go_nil nd ?_
    refine then_norm ?_
    refine awp_seq ?_
    refine awp_go hmix ?_
    refine go_run' ttok 2 rfl ?_
    refine go_eqlS ev.1 ev1.1 rfl rfl rfl rfl rfl ?_
    refine go_run' ttok 1 rfl ?_
    refine go_gcase rfl rfl rfl (fun g8 => ?_) (fun g8 => ?_)
    · rw [g8]
      replace h := of_bif_t h g8
      refine go_run' ttok 5 rfl ?_
      refine go_gcase rfl rfl rfl (fun g9 => ?_) (fun g9 => ?_)
      · rw [g9]
        replace h := of_bif_t h g9
        refine go_run' ttok 2 rfl ?_
        refine go_step rfl (as_eqAgg shTOrder rfl eqT23_1 eqT23_2 (by decide) rfl rfl rfl rfl rfl) rfl rfl rfl ?_
        refine go_run' ttok 2 rfl ?_
        refine go_gcase rfl rfl rfl (fun g10 => ?_) (fun g10 => ?_)
        · rw [g10]
          replace h := of_bif_t h g10
          refine go_run' ttok 5 rfl ?_
          refine go_gcase rfl rfl rfl (fun g11 => ?_) (fun g11 => ?_)
          · rw [g11]
            replace h := of_bif_t h g11
            obtain ⟨av1, hv12, h⟩ := of_obind h
            refine go_call fn11 (l46_awake_w av1 hv12) rfl rfl rfl rfl rfl rfl rfl ?_
            refine go_run' ttok 2 rfl ?_
            refine go_nil nd ?_
            refine then_norm ?_
            refine awp_ret ?_
            have e13 := of_some h
            subst e13
            refine ret_ret ?_
            refine fin0 ttok rfl rfl ?_
            exact (wkP_refl _ rfl)
          · rw [g11]
            replace h := of_bif_f h g11
            refine go_run' ttok 3 rfl ?_
            refine go_nil nd ?_
            refine then_norm ?_
            refine awp_ret ?_
            have e14 := of_some h
            subst e14
            refine ret_ret ?_
            refine fin0 ttok rfl rfl ?_
            exact (wkP_refl _ rfl)
        · rw [g10]
          replace h := of_bif_f h g10
          refine go_run' ttok 8 rfl ?_
          refine go_nil nd ?_
          refine then_norm ?_
          refine awp_ret ?_
          have e15 := of_some h
          subst e15
          refine ret_ret ?_
          refine fin0 ttok rfl rfl ?_
          exact (wkP_refl _ rfl)
      · rw [g9]
        replace h := of_bif_f h g9
        refine go_run' ttok 13 rfl ?_
        refine go_nil nd ?_
        refine then_norm ?_
        refine awp_ret ?_
        have e16 := of_some h
        subst e16
        refine ret_ret ?_
        refine fin0 ttok rfl rfl ?_
        exact (wkP_refl _ rfl)
    · rw [g8]
      replace h := of_bif_f h g8
      refine go_run' ttok 18 rfl ?_
      refine go_nil nd ?_
      refine then_norm ?_
      refine awp_ret ?_
      have e17 := of_some h
      subst e17
      refine ret_ret ?_
      refine fin0 ttok rfl rfl ?_
      exact (wkP_refl _ rfl)

/-- sawmill/sawmilllaw46.OrderBack -/
noncomputable def l46_OrderBack_g (o : TOrder) (s : ByteArray) : Option Bool :=
  (bif (decide (1000 < ((s.size : Nat) : Int))) then (Option.bind l46_awake_g (fun av => some av)) else (Option.bind (order_Encode_g o) (fun ev => (Option.bind ((Option.bind (order_Decode_g ev.1) (fun dv => (bif (ev.2 == 0) then (bif (dv.2 != 0) then some (Sum.inl false) else (bif (!(eqV encTOrder dv.1 o)) then some (Sum.inl false) else (bif (ev.2 != 0) then (bif (!(bEq ev.1 (⟨#[]⟩ : ByteArray))) then some (Sum.inl false) else some (Sum.inr ())) else some (Sum.inr ())))) else (bif (ev.2 != 0) then (bif (!(bEq ev.1 (⟨#[]⟩ : ByteArray))) then some (Sum.inl false) else some (Sum.inr ())) else some (Sum.inr ()))))) : Option (Bool ⊕ Unit)) (Sum.elim (fun q => some q) (fun _ => (Option.bind (order_Decode_g s) (fun dv1 => (bif (dv1.2 != 0) then (bif (dv1.2 == 5) then (bif (eqV encTOrder dv1.1 (⟨(⟨#[]⟩ : ByteArray), (⟨#[]⟩ : ByteArray), 0, 0, 0, 0, 0, 0, 0, 0, 0⟩ : TOrder)) then (Option.bind l46_awake_g (fun av1 => some av1)) else some false) else some false) else (Option.bind (order_Encode_g dv1.1) (fun ev1 => (bif (ev1.2 == 0) then (bif (bEq ev1.1 s) then (Option.bind l46_awake_g (fun av2 => some av2)) else some false) else some false))))))))))))
theorem l46_OrderBack_w (o : TOrder) (s : ByteArray) (r : Bool) (h : l46_OrderBack_g o s = some r) : Holds Try.prog 7 [(encTOrder o), (S s)] [] (B r) [] := by
  unfold l46_OrderBack_g at h
  refine holds_fn Try.func7 rfl Try.ntmps7 rfl rfl rfl (fun lim => ?_)
  refine awp_seq ?_
  refine awp_go hmix ?_
  refine go_run' ttok 2 rfl ?_
  refine go_nil nd ?_
  refine then_norm ?_
  refine awp_seq ?_
  refine awp_seq ?_
  refine awp_go hmix ?_
  refine go_run' ttok 3 rfl ?_
  refine go_nil nd ?_
  refine then_norm ?_
  refine awp_cond (b := (decide (1000 < ((s.size : Nat) : Int)))) rfl (fun c1 => ?_) (fun c1 => ?_)
  · replace h := of_bif_t h c1
    refine awp_seq ?_
    refine awp_go hmix ?_
    obtain ⟨av, hv2, h⟩ := of_obind h
    refine go_call fn11 (l46_awake_w av hv2) rfl rfl rfl rfl rfl rfl rfl ?_
    refine go_run' ttok 1 rfl ?_
    refine go_nil nd ?_
    refine then_norm ?_
    refine awp_ret ?_
    refine then_ret ?_
    have e3 := of_some h
    subst e3
    refine ret_ret ?_
    refine fin0 ttok rfl rfl ?_
    exact (wkP_refl _ rfl)
  · replace h := of_bif_f h c1
    refine awp_skip ?_
    refine then_norm ?_
    refine awp_seq ?_
    refine awp_go hmix ?_
    refine go_run' ttok 1 rfl ?_
    obtain ⟨ev, hv4, h⟩ := of_obind h
    refine go_call fn22 (order_Encode_w o ev hv4) rfl rfl rfl rfl rfl rfl rfl ?_
    refine go_run' ttok 5 rfl ?_
    refine go_nil nd ?_
    refine then_norm ?_
    obtain ⟨y, hx5, h⟩ := of_obind h
    refine awp_seqJ (X := Unit) [1] [] (fun _ => []) (fun _ => []) (fun w => Sum.inr w = y) rfl rfl ?_ ?_
    · skip
      refine awp_seq ?_
      refine awp_go hmix ?_
      refine go_run' ttok 1 rfl ?_
      obtain ⟨dv, hv7, hx5⟩ := of_obind hx5
      refine go_call fn24 (order_Decode_w ev.1 dv hv7) rfl rfl rfl rfl rfl rfl rfl ?_
      refine go_run' ttok 6 rfl ?_
      refine go_nil nd ?_
      refine then_norm ?_
      refine awp_seq ?_
      refine awp_go hmix ?_
      refine go_run' ttok 3 rfl ?_
      refine go_gcase rfl rfl rfl (fun g8 => ?_) (fun g8 => ?_)
      · rw [g8]
        replace hx5 := of_bif_t hx5 g8
        refine go_run' ttok 3 rfl ?_
        refine go_gcase rfl rfl rfl (fun g9 => ?_) (fun g9 => ?_)
        · rw [g9]
          replace hx5 := of_bif_t hx5 g9
          refine go_run' ttok 13 rfl ?_
          refine go_nil nd ?_
          refine then_norm ?_
          refine awp_cond rfl (fun tt0 => ?_) (fun h => by cases h)
          clear tt0
          refine awp_seq ?_
          refine awp_go hmix ?_
          refine go_run' ttok 1 rfl ?_
          refine go_nil nd ?_
          refine then_norm ?_
          refine awp_ret ?_
          obtain ⟨t, hn10, hq⟩ := of_mapl' hx5
          subst hq
          have hq := of_inl h
          replace hq := of_some hq
          subst hq
          refine then_ret ?_
          have e11 := of_some hn10
          subst e11
          refine ret_ret ?_
          refine fin0 ttok rfl rfl ?_
          exact (wkP_refl _ rfl)
        · rw [g9]
          replace hx5 := of_bif_f hx5 g9
          refine go_run' ttok 2 rfl ?_
          refine go_step rfl (as_neAgg shTOrder rfl eqT23_1 eqT23_2 (by decide) rfl rfl rfl rfl rfl) rfl rfl rfl ?_
          refine go_run' ttok 3 rfl ?_
          refine go_gcase rfl rfl rfl (fun g12 => ?_) (fun g12 => ?_)
          · rw [g12]
            replace hx5 := of_bif_t hx5 g12
            refine go_run' ttok 7 rfl ?_
            refine go_nil nd ?_
            refine then_norm ?_
            refine awp_cond rfl (fun tt0 => ?_) (fun h => by cases h)
            clear tt0
            refine awp_seq ?_
            refine awp_go hmix ?_
            refine go_run' ttok 1 rfl ?_
            refine go_nil nd ?_
            refine then_norm ?_
            refine awp_ret ?_
            obtain ⟨t1, hn13, hq⟩ := of_mapl' hx5
            subst hq
            have hq := of_inl h
            replace hq := of_some hq
            subst hq
            refine then_ret ?_
            have e14 := of_some hn13
            subst e14
            refine ret_ret ?_
            refine fin0 ttok rfl rfl ?_
            exact (wkP_refl _ rfl)
          · rw [g12]
            replace hx5 := of_bif_f hx5 g12
            refine go_run' ttok 3 rfl ?_
            refine go_gcase rfl rfl rfl (fun g15 => ?_) (fun g15 => ?_)
            · rw [g15]
              replace hx5 := of_bif_t hx5 g15
              refine go_run' ttok 1 rfl ?_
              refine go_neqS ev.1 (⟨#[]⟩ : ByteArray) rfl rfl rfl rfl rfl ?_
              refine go_run' ttok 2 rfl ?_
              refine go_nil nd ?_
              refine then_norm ?_
              refine awp_cond (b := (!(bEq ev.1 (⟨#[]⟩ : ByteArray)))) rfl (fun c16 => ?_) (fun c16 => ?_)
              · replace hx5 := of_bif_t hx5 c16
                refine awp_seq ?_
                refine awp_go hmix ?_
                refine go_run' ttok 1 rfl ?_
                refine go_nil nd ?_
                refine then_norm ?_
                refine awp_ret ?_
                obtain ⟨t2, hn17, hq⟩ := of_mapl' hx5
                subst hq
                have hq := of_inl h
                replace hq := of_some hq
                subst hq
                refine then_ret ?_
                have e18 := of_some hn17
                subst e18
                refine ret_ret ?_
                refine fin0 ttok rfl rfl ?_
                exact (wkP_refl _ rfl)
              · replace hx5 := of_bif_f hx5 c16
                refine awp_skip ?_
                have e19 := of_some hx5
                refine then_norm ⟨rfl, (), [], ⟨rfl, rfl, rfl, rfl, rfl, trivial, trivial⟩, e19⟩
            · rw [g15]
              replace hx5 := of_bif_f hx5 g15
              refine go_run' ttok 4 rfl ?_
              refine go_nil nd ?_
              refine then_norm ?_
              refine awp_cond rfl (fun h => by cases h) (fun tt0 => ?_)
              clear tt0
              refine awp_skip ?_
              have e20 := of_some hx5
              refine then_norm ⟨rfl, (), [], ⟨rfl, rfl, rfl, rfl, rfl, trivial, trivial⟩, e20⟩
      · rw [g8]
        replace hx5 := of_bif_f hx5 g8
        refine go_run' ttok 12 rfl ?_
        refine go_gcase rfl rfl rfl (fun g21 => ?_) (fun g21 => ?_)
        · rw [g21]
          replace hx5 := of_bif_t hx5 g21
          refine go_run' ttok 1 rfl ?_
          refine go_neqS ev.1 (⟨#[]⟩ : ByteArray) rfl rfl rfl rfl rfl ?_
          refine go_run' ttok 2 rfl ?_
          refine go_nil nd ?_
          refine then_norm ?_
          refine awp_cond (b := (!(bEq ev.1 (⟨#[]⟩ : ByteArray)))) rfl (fun c22 => ?_) (fun c22 => ?_)
          · replace hx5 := of_bif_t hx5 c22
            refine awp_seq ?_
            refine awp_go hmix ?_
            refine go_run' ttok 1 rfl ?_
            refine go_nil nd ?_
            refine then_norm ?_
            refine awp_ret ?_
            obtain ⟨t3, hn23, hq⟩ := of_mapl' hx5
            subst hq
            have hq := of_inl h
            replace hq := of_some hq
            subst hq
            refine then_ret ?_
            have e24 := of_some hn23
            subst e24
            refine ret_ret ?_
            refine fin0 ttok rfl rfl ?_
            exact (wkP_refl _ rfl)
          · replace hx5 := of_bif_f hx5 c22
            refine awp_skip ?_
            have e25 := of_some hx5
            refine then_norm ⟨rfl, (), [], ⟨rfl, rfl, rfl, rfl, rfl, trivial, trivial⟩, e25⟩
        · rw [g21]
          replace hx5 := of_bif_f hx5 g21
          refine go_run' ttok 4 rfl ?_
          refine go_nil nd ?_
          refine then_norm ?_
          refine awp_cond rfl (fun h => by cases h) (fun tt0 => ?_)
          clear tt0
          refine awp_skip ?_
          have e26 := of_some hx5
          refine then_norm ⟨rfl, (), [], ⟨rfl, rfl, rfl, rfl, rfl, trivial, trivial⟩, e26⟩
    · intro w hw6
      subst hw6
      replace h := of_inr h
      refine awp_seq ?_
      refine awp_go hmix ?_
      refine go_run' ttok 1 rfl ?_
      obtain ⟨dv1, hv27, h⟩ := of_obind h
      refine go_call fn24 (order_Decode_w s dv1 hv27) rfl rfl rfl rfl rfl rfl rfl ?_
      refine go_run' ttok 6 rfl ?_
      refine go_nil nd ?_
      refine then_norm ?_
      refine awp_seq ?_
      refine awp_seq ?_
      refine awp_go hmix ?_
      refine go_run' ttok 2 rfl ?_
      refine go_nil nd ?_
      refine then_norm ?_
      refine awp_cond (b := (dv1.2 != 0)) rfl (fun c28 => ?_) (fun c28 => ?_)
      · replace h := of_bif_t h c28
        refine awp_seq ?_
        refine awp_go hmix ?_
        refine go_run' ttok 3 rfl ?_
        refine go_gcase rfl rfl rfl (fun g29 => ?_) (fun g29 => ?_)
        · rw [g29]
          replace h := of_bif_t h g29
          refine go_run' ttok 2 rfl ?_
          refine go_step rfl (as_eqAgg shTOrder rfl eqT23_1 eqT23_2 (by decide) rfl rfl rfl rfl rfl) rfl rfl rfl ?_
          refine go_run' ttok 2 rfl ?_
          refine go_gcase rfl rfl rfl (fun g30 => ?_) (fun g30 => ?_)
          · rw [g30]
            replace h := of_bif_t h g30
            obtain ⟨av1, hv31, h⟩ := of_obind h
            refine go_call fn11 (l46_awake_w av1 hv31) rfl rfl rfl rfl rfl rfl rfl ?_
            refine go_run' ttok 2 rfl ?_
            refine go_nil nd ?_
            refine then_norm ?_
            refine awp_ret ?_
            refine then_ret ?_
            have e32 := of_some h
            subst e32
            refine ret_ret ?_
            refine fin0 ttok rfl rfl ?_
            exact (wkP_refl _ rfl)
          · rw [g30]
            replace h := of_bif_f h g30
            refine go_run' ttok 3 rfl ?_
            refine go_nil nd ?_
            refine then_norm ?_
            refine awp_ret ?_
            refine then_ret ?_
            have e33 := of_some h
            subst e33
            refine ret_ret ?_
            refine fin0 ttok rfl rfl ?_
            exact (wkP_refl _ rfl)
        · rw [g29]
          replace h := of_bif_f h g29
          refine go_run' ttok 8 rfl ?_
          refine go_nil nd ?_
          refine then_norm ?_
          refine awp_ret ?_
          refine then_ret ?_
          have e34 := of_some h
          subst e34
          refine ret_ret ?_
          refine fin0 ttok rfl rfl ?_
          exact (wkP_refl _ rfl)
      · replace h := of_bif_f h c28
        refine awp_skip ?_
        refine then_norm ?_
        refine awp_seq ?_
        refine awp_go hmix ?_
        refine go_run' ttok 1 rfl ?_
        obtain ⟨ev1, hv35, h⟩ := of_obind h
        refine go_call fn22 (order_Encode_w dv1.1 ev1 hv35) rfl rfl rfl rfl rfl rfl rfl ?_
        refine go_run' ttok 5 rfl ?_
        refine go_nil nd ?_
        refine then_norm ?_
        refine awp_seq ?_
        refine awp_go hmix ?_
        refine go_run' ttok 3 rfl ?_
        refine go_gcase rfl rfl rfl (fun g36 => ?_) (fun g36 => ?_)
        · rw [g36]
          replace h := of_bif_t h g36
          refine go_run' ttok 2 rfl ?_
          refine go_eqlS ev1.1 s rfl rfl rfl rfl rfl ?_
          refine go_run' ttok 2 rfl ?_
          refine go_gcase rfl rfl rfl (fun g37 => ?_) (fun g37 => ?_)
          · rw [g37]
            replace h := of_bif_t h g37
            obtain ⟨av2, hv38, h⟩ := of_obind h
            refine go_call fn11 (l46_awake_w av2 hv38) rfl rfl rfl rfl rfl rfl rfl ?_
            refine go_run' ttok 2 rfl ?_
            refine go_nil nd ?_
            refine then_norm ?_
            refine awp_ret ?_
            have e39 := of_some h
            subst e39
            refine ret_ret ?_
            refine fin0 ttok rfl rfl ?_
            exact (wkP_refl _ rfl)
          · rw [g37]
            replace h := of_bif_f h g37
            refine go_run' ttok 3 rfl ?_
            refine go_nil nd ?_
            refine then_norm ?_
            refine awp_ret ?_
            have e40 := of_some h
            subst e40
            refine ret_ret ?_
            refine fin0 ttok rfl rfl ?_
            exact (wkP_refl _ rfl)
        · rw [g36]
          replace h := of_bif_f h g36
          refine go_run' ttok 8 rfl ?_
          refine go_nil nd ?_
          refine then_norm ?_
          refine awp_ret ?_
          have e41 := of_some h
          subst e41
          refine ret_ret ?_
          refine fin0 ttok rfl rfl ?_
          exact (wkP_refl _ rfl)

/-- sawmill/sawmilllaw46.OrderCounts -/
noncomputable def l46_OrderCounts_g (o : TOrder) (l : (List TBoard)) (vat : Int) : Option Bool :=
  (bif (decide (250 < ((l.length : Nat) : Int))) then (Option.bind l46_awake_g (fun av => some av)) else (Option.bind ((bif ((order_Least_g o) != 0) then (bif (decide ((order_Least_g o) < 1)) then some (Sum.inl false) else (bif (decide (o.Want < (order_Least_g o))) then some (Sum.inl false) else (bif (decide ((order_Most_g o) < o.Want)) then some (Sum.inl false) else (bif (decide (200 < (order_Most_g o))) then some (Sum.inl false) else (bif (!(((order_Least_g o) == 0) == ((order_Most_g o) == 0))) then some (Sum.inl false) else some (Sum.inr ())))))) else (bif (!(((order_Least_g o) == 0) == ((order_Most_g o) == 0))) then some (Sum.inl false) else some (Sum.inr ()))) : Option (Bool ⊕ Unit)) (Sum.elim (fun q => some q) (fun _ => (Option.bind (order_Filled_g o l) (fun fv => (bif (!fv) then (Option.bind l46_awake_g (fun av1 => some av1)) else (bif (decide (vat < 0)) then (Option.bind l46_awake_g (fun av2 => some av2)) else (bif (decide (((l.length : Nat) : Int) < vat)) then (Option.bind l46_awake_g (fun av3 => some av3)) else (Option.bind (subO l vat ((l.length : Nat) : Int)) (fun l1 => (Option.bind (appO 184 ([] : List TBoard) l1) (fun l2 => (Option.bind (subO l 0 vat) (fun l3 => (Option.bind (appO 184 l2 l3) (fun l4 => (bif (decide (((l.length : Nat) : Int) < (order_Least_g o))) then some false else (bif (decide ((order_Most_g o) < ((l.length : Nat) : Int))) then some false else (Option.bind (order_Filled_g o l4) (fun fv1 => (bif (!fv1) then some false else (Option.bind (subO l 0 (W64 (((l.length : Nat) : Int) - 1))) (fun l5 => (Option.bind (order_Filled_g o l5) (fun fv2 => (bif (fv2 == (decide ((order_Least_g o) ≤ (W64 (((l.length : Nat) : Int) - 1))))) then (Option.bind l46_awake_g (fun av4 => some av4)) else some false)))))))))))))))))))))))))))
theorem l46_OrderCounts_w (o : TOrder) (l : (List TBoard)) (vat : Int) (r : Bool) (h : l46_OrderCounts_g o l vat = some r) : Holds Try.prog 8 [(encTOrder o), ((encL encTBoard) l), (I vat)] [] (B r) [] := by
  unfold l46_OrderCounts_g at h
  refine holds_fn Try.func8 rfl Try.ntmps8 rfl rfl rfl (fun lim => ?_)
  refine awp_seq ?_
  refine awp_go hmix ?_
  refine go_run' ttok 2 rfl ?_
  refine go_nil nd ?_
  refine then_norm ?_
  refine awp_seq ?_
  refine awp_seq ?_
  refine awp_go hmix ?_
  refine go_run' ttok 1 rfl ?_
  refine go_lenT encTBoard l ttok rfl rfl rfl rfl rfl rfl ?_
  refine go_run' ttok 1 rfl ?_
  refine go_nil nd ?_
  refine then_norm ?_
  refine awp_cond (b := (decide (250 < ((l.length : Nat) : Int)))) rfl (fun c1 => ?_) (fun c1 => ?_)
  · replace h := of_bif_t h c1
    refine awp_seq ?_
    refine awp_go hmix ?_
    obtain ⟨av, hv2, h⟩ := of_obind h
    refine go_call fn11 (l46_awake_w av hv2) rfl rfl rfl rfl rfl rfl rfl ?_
    refine go_run' ttok 1 rfl ?_
    refine go_nil nd ?_
    refine then_norm ?_
    refine awp_ret ?_
    refine then_ret ?_
    have e3 := of_some h
    subst e3
    refine ret_ret ?_
    refine fin0 ttok rfl rfl ?_
    exact (wkP_refl _ rfl)
  · replace h := of_bif_f h c1
    refine awp_skip ?_
    refine then_norm ?_
    refine awp_seq ?_
    refine awp_go hmix ?_
    refine go_run' ttok 1 rfl ?_
    refine go_call fn16 (order_Least_w o _ rfl) rfl rfl rfl rfl rfl rfl rfl ?_
    refine go_run' ttok 1 rfl ?_
    refine go_call fn18 (order_Most_w o _ rfl) rfl rfl rfl rfl rfl rfl rfl ?_
    refine go_run' ttok 2 rfl ?_
    refine go_nil (fun _ => by kernel_rfl) ?_
    refine then_norm ?_
    obtain ⟨y, hx4, h⟩ := of_obind h
    refine awp_seqJ (X := Unit) [1, 2, 3, 7, 8] [3] (fun _ => []) (fun _ => []) (fun w => Sum.inr w = y) rfl rfl ?_ ?_
    · skip
      refine awp_seq ?_
      refine awp_go hmix ?_
      refine go_run' ttok 3 rfl ?_
      refine go_gcase rfl rfl rfl (fun g6 => ?_) (fun g6 => ?_)
      · rw [g6]
        replace hx4 := of_bif_t hx4 g6
        refine go_run' ttok 3 rfl ?_
        refine go_gcase rfl rfl rfl (fun g7 => ?_) (fun g7 => ?_)
        · rw [g7]
          replace hx4 := of_bif_t hx4 g7
          refine go_run' ttok 23 rfl ?_
          refine go_nil nd ?_
          refine then_norm ?_
          refine awp_cond rfl (fun tt0 => ?_) (fun h => by cases h)
          clear tt0
          refine awp_seq ?_
          refine awp_go hmix ?_
          refine go_run' ttok 1 rfl ?_
          refine go_nil nd ?_
          refine then_norm ?_
          refine awp_ret ?_
          obtain ⟨t, hn8, hq⟩ := of_mapl' hx4
          subst hq
          have hq := of_inl h
          replace hq := of_some hq
          subst hq
          refine then_ret ?_
          have e9 := of_some hn8
          subst e9
          refine ret_ret ?_
          refine fin0 ttok rfl rfl ?_
          exact (wkP_refl _ rfl)
        · rw [g7]
          replace hx4 := of_bif_f hx4 g7
          refine go_run' ttok 6 rfl ?_
          refine go_gcase rfl rfl rfl (fun g10 => ?_) (fun g10 => ?_)
          · rw [g10]
            replace hx4 := of_bif_t hx4 g10
            refine go_run' ttok 17 rfl ?_
            refine go_nil nd ?_
            refine then_norm ?_
            refine awp_cond rfl (fun tt0 => ?_) (fun h => by cases h)
            clear tt0
            refine awp_seq ?_
            refine awp_go hmix ?_
            refine go_run' ttok 1 rfl ?_
            refine go_nil nd ?_
            refine then_norm ?_
            refine awp_ret ?_
            obtain ⟨t1, hn11, hq⟩ := of_mapl' hx4
            subst hq
            have hq := of_inl h
            replace hq := of_some hq
            subst hq
            refine then_ret ?_
            have e12 := of_some hn11
            subst e12
            refine ret_ret ?_
            refine fin0 ttok rfl rfl ?_
            exact (wkP_refl _ rfl)
          · rw [g10]
            replace hx4 := of_bif_f hx4 g10
            refine go_run' ttok 6 rfl ?_
            refine go_gcase rfl rfl rfl (fun g13 => ?_) (fun g13 => ?_)
            · rw [g13]
              replace hx4 := of_bif_t hx4 g13
              refine go_run' ttok 11 rfl ?_
              refine go_nil nd ?_
              refine then_norm ?_
              refine awp_cond rfl (fun tt0 => ?_) (fun h => by cases h)
              clear tt0
              refine awp_seq ?_
              refine awp_go hmix ?_
              refine go_run' ttok 1 rfl ?_
              refine go_nil nd ?_
              refine then_norm ?_
              refine awp_ret ?_
              obtain ⟨t2, hn14, hq⟩ := of_mapl' hx4
              subst hq
              have hq := of_inl h
              replace hq := of_some hq
              subst hq
              refine then_ret ?_
              have e15 := of_some hn14
              subst e15
              refine ret_ret ?_
              refine fin0 ttok rfl rfl ?_
              exact (wkP_refl _ rfl)
            · rw [g13]
              replace hx4 := of_bif_f hx4 g13
              refine go_run' ttok 5 rfl ?_
              refine go_gcase rfl rfl rfl (fun g16 => ?_) (fun g16 => ?_)
              · rw [g16]
                replace hx4 := of_bif_t hx4 g16
                refine go_run' ttok 6 rfl ?_
                refine go_nil nd ?_
                refine then_norm ?_
                refine awp_cond rfl (fun tt0 => ?_) (fun h => by cases h)
                clear tt0
                refine awp_seq ?_
                refine awp_go hmix ?_
                refine go_run' ttok 1 rfl ?_
                refine go_nil nd ?_
                refine then_norm ?_
                refine awp_ret ?_
                obtain ⟨t3, hn17, hq⟩ := of_mapl' hx4
                subst hq
                have hq := of_inl h
                replace hq := of_some hq
                subst hq
                refine then_ret ?_
                have e18 := of_some hn17
                subst e18
                refine ret_ret ?_
                refine fin0 ttok rfl rfl ?_
                exact (wkP_refl _ rfl)
              · rw [g16]
                replace hx4 := of_bif_f hx4 g16
                refine go_run' ttok 4 rfl ?_
                refine go_step rfl (as_neBool rfl (ttok _ _ rfl) rfl rfl rfl) rfl rfl rfl ?_
                refine go_run' ttok 1 rfl ?_
                refine go_nil nd ?_
                refine then_norm ?_
                refine awp_cond (b := (!(((order_Least_g o) == 0) == ((order_Most_g o) == 0)))) rfl (fun c19 => ?_) (fun c19 => ?_)
                · replace hx4 := of_bif_t hx4 c19
                  refine awp_seq ?_
                  refine awp_go hmix ?_
                  refine go_run' ttok 1 rfl ?_
                  refine go_nil nd ?_
                  refine then_norm ?_
                  refine awp_ret ?_
                  obtain ⟨t4, hn20, hq⟩ := of_mapl' hx4
                  subst hq
                  have hq := of_inl h
                  replace hq := of_some hq
                  subst hq
                  refine then_ret ?_
                  have e21 := of_some hn20
                  subst e21
                  refine ret_ret ?_
                  refine fin0 ttok rfl rfl ?_
                  exact (wkP_refl _ rfl)
                · replace hx4 := of_bif_f hx4 c19
                  refine awp_skip ?_
                  have e22 := of_some hx4
                  refine then_norm ⟨rfl, (), [(3, some 3)], ⟨rfl, rfl, rfl, rfl, rfl, trivial, trivial⟩, e22⟩
      · rw [g6]
        replace hx4 := of_bif_f hx4 g6
        refine go_run' ttok 24 rfl ?_
        refine go_step rfl (as_neBool rfl (ttok _ _ rfl) rfl rfl rfl) rfl rfl rfl ?_
        refine go_run' ttok 1 rfl ?_
        refine go_nil nd ?_
        refine then_norm ?_
        refine awp_cond (b := (!(((order_Least_g o) == 0) == ((order_Most_g o) == 0)))) rfl (fun c23 => ?_) (fun c23 => ?_)
        · replace hx4 := of_bif_t hx4 c23
          refine awp_seq ?_
          refine awp_go hmix ?_
          refine go_run' ttok 1 rfl ?_
          refine go_nil nd ?_
          refine then_norm ?_
          refine awp_ret ?_
          obtain ⟨t5, hn24, hq⟩ := of_mapl' hx4
          subst hq
          have hq := of_inl h
          replace hq := of_some hq
          subst hq
          refine then_ret ?_
          have e25 := of_some hn24
          subst e25
          refine ret_ret ?_
          refine fin0 ttok rfl rfl ?_
          exact (wkP_refl _ rfl)
        · replace hx4 := of_bif_f hx4 c23
          refine awp_skip ?_
          have e26 := of_some hx4
          refine then_norm ⟨rfl, (), [(3, some 3)], ⟨rfl, rfl, rfl, rfl, rfl, trivial, trivial⟩, e26⟩
    · intro w hw5
      subst hw5
      replace h := of_inr h
      refine awp_seq ?_
      refine awp_seq ?_
      refine awp_go hmix ?_
      refine go_run' ttok 2 rfl ?_
      obtain ⟨fv, hv27, h⟩ := of_obind h
      refine go_call fn20 (order_Filled_w o l fv hv27) rfl rfl rfl rfl rfl rfl rfl ?_
      refine go_run' ttok 2 rfl ?_
      refine go_gcase rfl rfl rfl (fun g28 => ?_) (fun g28 => ?_)
      · rw [g28]
        replace h := of_bif_t h g28
        refine go_run' ttok 9 rfl ?_
        refine go_nil nd ?_
        refine then_norm ?_
        refine awp_cond rfl (fun tt0 => ?_) (fun h => by cases h)
        clear tt0
        refine awp_seq ?_
        refine awp_go hmix ?_
        obtain ⟨av1, hv29, h⟩ := of_obind h
        refine go_call fn11 (l46_awake_w av1 hv29) rfl rfl rfl rfl rfl rfl rfl ?_
        refine go_run' ttok 1 rfl ?_
        refine go_nil nd ?_
        refine then_norm ?_
        refine awp_ret ?_
        refine then_ret ?_
        have e30 := of_some h
        subst e30
        refine ret_ret ?_
        refine fin0 ttok rfl rfl ?_
        exact (wkP_refl _ rfl)
      · rw [g28]
        replace h := of_bif_f h g28
        refine go_run' ttok 4 rfl ?_
        refine go_gcase rfl rfl rfl (fun g31 => ?_) (fun g31 => ?_)
        · rw [g31]
          replace h := of_bif_t h g31
          refine go_run' ttok 5 rfl ?_
          refine go_nil nd ?_
          refine then_norm ?_
          refine awp_cond rfl (fun tt0 => ?_) (fun h => by cases h)
          clear tt0
          refine awp_seq ?_
          refine awp_go hmix ?_
          obtain ⟨av2, hv32, h⟩ := of_obind h
          refine go_call fn11 (l46_awake_w av2 hv32) rfl rfl rfl rfl rfl rfl rfl ?_
          refine go_run' ttok 1 rfl ?_
          refine go_nil nd ?_
          refine then_norm ?_
          refine awp_ret ?_
          refine then_ret ?_
          have e33 := of_some h
          subst e33
          refine ret_ret ?_
          refine fin0 ttok rfl rfl ?_
          exact (wkP_refl _ rfl)
        · rw [g31]
          replace h := of_bif_f h g31
          refine go_run' ttok 2 rfl ?_
          refine go_lenT encTBoard l ttok rfl rfl rfl rfl rfl rfl ?_
          refine go_run' ttok 2 rfl ?_
          refine go_nil nd ?_
          refine then_norm ?_
          refine awp_cond (b := (decide (((l.length : Nat) : Int) < vat))) rfl (fun c34 => ?_) (fun c34 => ?_)
          · replace h := of_bif_t h c34
            refine awp_seq ?_
            refine awp_go hmix ?_
            obtain ⟨av3, hv35, h⟩ := of_obind h
            refine go_call fn11 (l46_awake_w av3 hv35) rfl rfl rfl rfl rfl rfl rfl ?_
            refine go_run' ttok 1 rfl ?_
            refine go_nil nd ?_
            refine then_norm ?_
            refine awp_ret ?_
            refine then_ret ?_
            have e36 := of_some h
            subst e36
            refine ret_ret ?_
            refine fin0 ttok rfl rfl ?_
            exact (wkP_refl _ rfl)
          · replace h := of_bif_f h c34
            refine awp_skip ?_
            refine then_norm ?_
            refine awp_seq ?_
            refine awp_go hmix ?_
            refine go_run' ttok 1 rfl ?_
            refine go_nil nd ?_
            refine then_norm ?_
            refine awp_seq ?_
            refine awp_go hmix ?_
            refine go_run' ttok 3 rfl ?_
            obtain ⟨l1, hv37, h⟩ := of_obind h
            refine go_sliceT encTBoard l l1 vat ((l.length : Nat) : Int) hv37 (fun _ => rfl) ttok rfl rfl rfl rfl rfl rfl ⟨_, rfl⟩ rfl rfl ?_
            obtain ⟨l2, hv38, h⟩ := of_obind h
            refine go_appTnS encTBoard l1 l2 hv38 (fun _ => rfl) (fun _ => rfl) ttok rfl rfl rfl rfl rfl rfl rfl rfl rfl rfl rfl rfl ?_
            refine go_run' ttok 1 rfl ?_
            refine go_nil nd ?_
            refine then_norm ?_
            refine awp_seq ?_
            refine awp_go hmix ?_
            refine go_run' ttok 3 rfl ?_
            obtain ⟨l3, hv39, h⟩ := of_obind h
            refine go_sliceT encTBoard l l3 0 vat hv39 (fun _ => rfl) ttok rfl rfl rfl rfl rfl rfl rfl ⟨_, rfl⟩ rfl ?_
            obtain ⟨l4, hv40, h⟩ := of_obind h
            refine go_appTS encTBoard l2 l3 l4 hv40 (fun _ => rfl) (fun _ => rfl) (by first | rfl | simp [setI]) ttok rfl rfl rfl rfl rfl rfl rfl rfl rfl rfl rfl rfl rfl rfl rfl ?_
            refine go_run' ttok 1 rfl ?_
            refine go_nil nd ?_
            refine then_norm ?_
            refine awp_seq ?_
            refine awp_seq ?_
            refine awp_go hmix ?_
            refine go_run' ttok 1 rfl ?_
            refine go_lenT encTBoard l ttok rfl rfl rfl rfl rfl rfl ?_
            refine go_run' ttok 3 rfl ?_
            refine go_gcase rfl rfl rfl (fun g41 => ?_) (fun g41 => ?_)
            · rw [g41]
              replace h := of_bif_t h g41
              refine go_run' ttok 11 rfl ?_
              refine go_nil nd ?_
              refine then_norm ?_
              refine awp_cond rfl (fun tt0 => ?_) (fun h => by cases h)
              clear tt0
              refine awp_seq ?_
              refine awp_go hmix ?_
              refine go_run' ttok 1 rfl ?_
              refine go_nil nd ?_
              refine then_norm ?_
              refine awp_ret ?_
              refine then_ret ?_
              have e42 := of_some h
              subst e42
              refine ret_ret ?_
              refine fin0 ttok rfl rfl ?_
              exact (wkP_refl _ rfl)
            · rw [g41]
              replace h := of_bif_f h g41
              refine go_run' ttok 1 rfl ?_
              refine go_lenT encTBoard l ttok rfl rfl rfl rfl rfl rfl ?_
              refine go_run' ttok 4 rfl ?_
              refine go_gcase rfl rfl rfl (fun g43 => ?_) (fun g43 => ?_)
              · rw [g43]
                replace h := of_bif_t h g43
                refine go_run' ttok 5 rfl ?_
                refine go_nil nd ?_
                refine then_norm ?_
                refine awp_cond rfl (fun tt0 => ?_) (fun h => by cases h)
                clear tt0
                refine awp_seq ?_
                refine awp_go hmix ?_
                refine go_run' ttok 1 rfl ?_
                refine go_nil nd ?_
                refine then_norm ?_
                refine awp_ret ?_
                refine then_ret ?_
                have e44 := of_some h
                subst e44
                refine ret_ret ?_
                refine fin0 ttok rfl rfl ?_
                exact (wkP_refl _ rfl)
              · rw [g43]
                replace h := of_bif_f h g43
                refine go_run' ttok 2 rfl ?_
                obtain ⟨fv1, hv45, h⟩ := of_obind h
                refine go_callL (L := [(71, some ⟨38, 18, l4.map encTBoard⟩)]) fn20 (order_Filled_w o l4 fv1 hv45) rfl rfl rfl ⟨rfl, List.not_mem_nil, trivial⟩ ⟨(wkP_refl _ rfl), (wkP_lend rfl (by first | rfl | simp [setI]) (fun _ => rfl)), trivial⟩ rfl rfl (fun _ => rfl) rfl ?_
                refine go_run' ttok 2 rfl ?_
                refine go_nil nd ?_
                refine then_norm ?_
                refine awp_cond (b := (!fv1)) rfl (fun c46 => ?_) (fun c46 => ?_)
                · replace h := of_bif_t h c46
                  refine awp_seq ?_
                  refine awp_go hmix ?_
                  refine go_run' ttok 1 rfl ?_
                  refine go_nil nd ?_
                  refine then_norm ?_
                  refine awp_ret ?_
                  refine then_ret ?_
                  have e47 := of_some h
                  subst e47
                  refine ret_ret ?_
                  refine fin0 ttok rfl rfl ?_
                  exact (wkP_refl _ rfl)
                · replace h := of_bif_f h c46
                  refine awp_skip ?_
                  refine then_norm ?_
                  refine awp_seq ?_
                  refine awp_go hmix ?_
                  refine go_run' ttok 3 rfl ?_
                  refine go_lenT encTBoard l ttok rfl rfl rfl rfl rfl rfl ?_
                  refine go_run' ttok 1 rfl ?_
                  obtain ⟨l5, hv48, h⟩ := of_obind h
                  refine go_sliceT encTBoard l l5 0 (W64 (((l.length : Nat) : Int) - 1)) hv48 (fun _ => rfl) ttok rfl rfl rfl rfl rfl rfl rfl ⟨_, rfl⟩ rfl ?_
                  obtain ⟨fv2, hv49, h⟩ := of_obind h
                  refine go_call fn20 (order_Filled_w o l5 fv2 hv49) rfl rfl rfl rfl rfl rfl rfl ?_
                  refine go_run' ttok 1 rfl ?_
                  refine go_lenT encTBoard l ttok rfl rfl rfl rfl rfl rfl ?_
                  refine go_run' ttok 3 rfl ?_
                  refine go_step rfl (as_eqBool rfl (ttok _ _ rfl) rfl rfl rfl) rfl rfl rfl ?_
                  refine go_run' ttok 1 rfl ?_
                  refine go_gcase rfl rfl rfl (fun g50 => ?_) (fun g50 => ?_)
                  · rw [g50]
                    replace h := of_bif_t h g50
                    obtain ⟨av4, hv51, h⟩ := of_obind h
                    refine go_call fn11 (l46_awake_w av4 hv51) rfl rfl rfl rfl rfl rfl rfl ?_
                    refine go_run' ttok 2 rfl ?_
                    refine go_nil (fun _ => by kernel_rfl) ?_
                    refine then_norm ?_
                    refine awp_ret ?_
                    have e52 := of_some h
                    subst e52
                    refine ret_ret ?_
                    refine fin0 ttok rfl rfl ?_
                    exact (wkP_refl _ rfl)
                  · rw [g50]
                    replace h := of_bif_f h g50
                    refine go_run' ttok 3 rfl ?_
                    refine go_nil (fun _ => by kernel_rfl) ?_
                    refine then_norm ?_
                    refine awp_ret ?_
                    have e53 := of_some h
                    subst e53
                    refine ret_ret ?_
                    refine fin0 ttok rfl rfl ?_
                    exact (wkP_refl _ rfl)

/-- sawmill/sawmilllaw46.OrderBetter -/
noncomputable def l46_OrderBetter_g (o : TOrder) (b : TBoard) (less : (Int × Int × Int)) : Option Bool :=
  (bif ((order_Fits_g o b) != 0) then (Option.bind l46_awake_g (fun av => some av)) else (bif (decide (less.1 < 0)) then (Option.bind l46_awake_g (fun av1 => some av1)) else (bif (decide (less.2.1 < 0)) then (Option.bind l46_awake_g (fun av2 => some av2)) else (bif (decide (less.2.2 < 0)) then (Option.bind l46_awake_g (fun av3 => some av3)) else (letB ((bif (decide (less.2.1 ≤ b.Cell.Surf)) then (bif (decide (b.Cell.Surf ≤ 20000)) then (⟨b.Id, b.Log, b.Species, b.Product, b.Box, b.Volume, b.Defects, b.Wane, (⟨(W64 (b.Cell.Surf - less.2.1)), b.Cell.Core, b.Cell.Stress⟩ : TCell), b.Dried, (max 1 (W64 (b.Grade - (min less.1 10))))⟩ : TBoard) else (⟨b.Id, b.Log, b.Species, b.Product, b.Box, b.Volume, b.Defects, b.Wane, b.Cell, b.Dried, (max 1 (W64 (b.Grade - (min less.1 10))))⟩ : TBoard)) else (⟨b.Id, b.Log, b.Species, b.Product, b.Box, b.Volume, b.Defects, b.Wane, b.Cell, b.Dried, (max 1 (W64 (b.Grade - (min less.1 10))))⟩ : TBoard)) : TBoard) (fun x => (bif ((order_Fits_g o x) == 0) then (bif ((order_Fits_g (⟨o.Id, o.Species, o.Product, o.Length, (max o.Grade (min less.1 9)), (max o.Moist (min less.2.2 20000)), less.2.1, o.Minus, o.Plus, o.Price, o.Due⟩ : TOrder) b) == 0) then (bif ((order_Fits_g (⟨o.Id, o.Species, o.Product, o.Length, (max o.Grade (min less.1 9)), (max o.Moist (min less.2.2 20000)), less.2.1, o.Minus, o.Plus, o.Price, o.Due⟩ : TOrder) x) == 0) then (Option.bind l46_awake_g (fun av4 => some av4)) else some false) else some false) else some false)))))))
theorem l46_OrderBetter_w (o : TOrder) (b : TBoard) (less : (Int × Int × Int)) (r : Bool) (h : l46_OrderBetter_g o b less = some r) : Holds Try.prog 9 [(encTOrder o), (encTBoard b), (.agg [(I less.1), (I less.2.1), (I less.2.2)])] [] (B r) [] := by
  unfold l46_OrderBetter_g at h
  refine holds_fn Try.func9 rfl Try.ntmps9 rfl rfl rfl (fun lim => ?_)
  refine awp_seq ?_
  refine awp_go hmix ?_
  refine go_run' ttok 4 rfl ?_
  refine go_nil nd ?_
  refine then_norm ?_
  refine awp_seq ?_
  refine awp_seq ?_
  refine awp_go hmix ?_
  refine go_run' ttok 2 rfl ?_
  refine go_call fn14 (order_Fits_w o b _ rfl) rfl rfl rfl rfl rfl rfl rfl ?_
  refine go_run' ttok 2 rfl ?_
  refine go_gcase rfl rfl rfl (fun g1 => ?_) (fun g1 => ?_)
  · rw [g1]
    replace h := of_bif_t h g1
    refine go_run' ttok 14 rfl ?_
    refine go_nil nd ?_
    refine then_norm ?_
    refine awp_cond rfl (fun tt0 => ?_) (fun h => by cases h)
    clear tt0
    refine awp_seq ?_
    refine awp_go hmix ?_
    obtain ⟨av, hv2, h⟩ := of_obind h
    refine go_call fn11 (l46_awake_w av hv2) rfl rfl rfl rfl rfl rfl rfl ?_
    refine go_run' ttok 1 rfl ?_
    refine go_nil nd ?_
    refine then_norm ?_
    refine awp_ret ?_
    refine then_ret ?_
    have e3 := of_some h
    subst e3
    refine ret_ret ?_
    refine fin0 ttok rfl rfl ?_
    exact (wkP_refl _ rfl)
  · rw [g1]
    replace h := of_bif_f h g1
    refine go_run' ttok 5 rfl ?_
    refine go_gcase rfl rfl rfl (fun g4 => ?_) (fun g4 => ?_)
    · rw [g4]
      replace h := of_bif_t h g4
      refine go_run' ttok 9 rfl ?_
      refine go_nil nd ?_
      refine then_norm ?_
      refine awp_cond rfl (fun tt0 => ?_) (fun h => by cases h)
      clear tt0
      refine awp_seq ?_
      refine awp_go hmix ?_
      obtain ⟨av1, hv5, h⟩ := of_obind h
      refine go_call fn11 (l46_awake_w av1 hv5) rfl rfl rfl rfl rfl rfl rfl ?_
      refine go_run' ttok 1 rfl ?_
      refine go_nil nd ?_
      refine then_norm ?_
      refine awp_ret ?_
      refine then_ret ?_
      have e6 := of_some h
      subst e6
      refine ret_ret ?_
      refine fin0 ttok rfl rfl ?_
      exact (wkP_refl _ rfl)
    · rw [g4]
      replace h := of_bif_f h g4
      refine go_run' ttok 5 rfl ?_
      refine go_gcase rfl rfl rfl (fun g7 => ?_) (fun g7 => ?_)
      · rw [g7]
        replace h := of_bif_t h g7
        refine go_run' ttok 4 rfl ?_
        refine go_nil nd ?_
        refine then_norm ?_
        refine awp_cond rfl (fun tt0 => ?_) (fun h => by cases h)
        clear tt0
        refine awp_seq ?_
        refine awp_go hmix ?_
        obtain ⟨av2, hv8, h⟩ := of_obind h
        refine go_call fn11 (l46_awake_w av2 hv8) rfl rfl rfl rfl rfl rfl rfl ?_
        refine go_run' ttok 1 rfl ?_
        refine go_nil nd ?_
        refine then_norm ?_
        refine awp_ret ?_
        refine then_ret ?_
        have e9 := of_some h
        subst e9
        refine ret_ret ?_
        refine fin0 ttok rfl rfl ?_
        exact (wkP_refl _ rfl)
      · rw [g7]
        replace h := of_bif_f h g7
        refine go_run' ttok 4 rfl ?_
        refine go_nil nd ?_
        refine then_norm ?_
        refine awp_cond (b := (decide (less.2.2 < 0))) rfl (fun c10 => ?_) (fun c10 => ?_)
        · replace h := of_bif_t h c10
          refine awp_seq ?_
          refine awp_go hmix ?_
          obtain ⟨av3, hv11, h⟩ := of_obind h
          refine go_call fn11 (l46_awake_w av3 hv11) rfl rfl rfl rfl rfl rfl rfl ?_
          refine go_run' ttok 1 rfl ?_
          refine go_nil nd ?_
          refine then_norm ?_
          refine awp_ret ?_
          refine then_ret ?_
          have e12 := of_some h
          subst e12
          refine ret_ret ?_
          refine fin0 ttok rfl rfl ?_
          exact (wkP_refl _ rfl)
        · replace h := of_bif_f h c10
          refine awp_skip ?_
          refine then_norm ?_
          refine awp_seq ?_
          refine awp_go hmix ?_
          refine go_run' ttok 6 rfl ?_
          refine go_nil (fun _ => by kernel_rfl) ?_
          refine then_norm ?_
          refine awp_seq ?_
          refine awp_go hmix ?_
          refine go_run' ttok 9 rfl ?_
          refine go_nil nd ?_
          refine then_norm ?_
          obtain ⟨y, hx13, h⟩ := of_let h
          refine awp_seqJ (X := TBoard) [3, 4, 5, 7, 8] [3, 4, 5, 8] (fun w => []) (fun w => [(7, some ⟨38, 18, [(.agg [(S w.Id), (S w.Log), (S w.Species), (I w.Product), (I w.Box.x.a), (I w.Box.x.b), (I w.Box.y.a), (I w.Box.y.b), (I w.Box.z.a), (I w.Box.z.b), (I w.Volume), (encL encDf w.Defects), (I w.Wane), (I w.Cell.Surf), (I w.Cell.Core), (I w.Cell.Stress), (B w.Dried), (I w.Grade)])]⟩)]) (fun w => w = y) rfl rfl ?_ ?_
          · skip
            refine awp_seq ?_
            refine awp_go hmix ?_
            refine go_run' ttok 7 rfl ?_
            refine go_gcase rfl rfl rfl (fun g15 => ?_) (fun g15 => ?_)
            · rw [g15]
              replace hx13 := of_bif_t hx13 g15
              refine go_run' ttok 5 rfl ?_
              refine go_nil nd ?_
              refine then_norm ?_
              refine awp_cond (b := (decide (b.Cell.Surf ≤ 20000))) rfl (fun c16 => ?_) (fun c16 => ?_)
              · replace hx13 := of_bif_t hx13 c16
                refine awp_go hmix ?_
                refine go_run' ttok 9 rfl ?_
                refine go_nil nd ?_
                have e17 := hx13
                refine then_norm ⟨rfl, (⟨b.Id, b.Log, b.Species, b.Product, b.Box, b.Volume, b.Defects, b.Wane, (⟨(W64 (b.Cell.Surf - less.2.1)), b.Cell.Core, b.Cell.Stress⟩ : TCell), b.Dried, (max 1 (W64 (b.Grade - (min less.1 10))))⟩ : TBoard), [(7, some 7), (3, some 3), (4, some 4), (5, some 5), (8, some 8)], ⟨rfl, rfl, rfl, rfl, rfl, trivial, ⟨⟨_, rfl, rfl, rfl, .inl ⟨rfl, nr_one rfl⟩⟩, trivial⟩⟩, e17⟩
              · replace hx13 := of_bif_f hx13 c16
                refine awp_skip ?_
                have e18 := hx13
                refine then_norm ⟨rfl, (⟨b.Id, b.Log, b.Species, b.Product, b.Box, b.Volume, b.Defects, b.Wane, b.Cell, b.Dried, (max 1 (W64 (b.Grade - (min less.1 10))))⟩ : TBoard), [(7, some 7), (3, some 3), (4, some 4), (5, some 5), (8, some 8)], ⟨rfl, rfl, rfl, rfl, rfl, trivial, ⟨⟨_, rfl, rfl, rfl, .inl ⟨rfl, nr_one rfl⟩⟩, trivial⟩⟩, e18⟩
            · rw [g15]
              replace hx13 := of_bif_f hx13 g15
              refine go_run' ttok 5 rfl ?_
              refine go_nil nd ?_
              refine then_norm ?_
              refine awp_cond rfl (fun h => by cases h) (fun tt0 => ?_)
              clear tt0
              refine awp_skip ?_
              have e19 := hx13
              refine then_norm ⟨rfl, (⟨b.Id, b.Log, b.Species, b.Product, b.Box, b.Volume, b.Defects, b.Wane, b.Cell, b.Dried, (max 1 (W64 (b.Grade - (min less.1 10))))⟩ : TBoard), [(7, some 7), (3, some 3), (4, some 4), (5, some 5), (8, some 8)], ⟨rfl, rfl, rfl, rfl, rfl, trivial, ⟨⟨_, rfl, rfl, rfl, .inl ⟨rfl, nr_one rfl⟩⟩, trivial⟩⟩, e19⟩
          · intro x hw14
            subst hw14
            refine awp_seq ?_
            refine awp_go hmix ?_
            refine go_run' ttok 8 rfl ?_
            refine go_nil nd ?_
            refine then_norm ?_
            refine awp_seq ?_
            refine awp_go hmix ?_
            refine go_run' ttok 8 rfl ?_
            refine go_nil nd ?_
            refine then_norm ?_
            refine awp_seq ?_
            refine awp_go hmix ?_
            refine go_run' ttok 4 rfl ?_
            refine go_nil nd ?_
            refine then_norm ?_
            refine awp_seq ?_
            refine awp_go hmix ?_
            refine go_run' ttok 2 rfl ?_
            refine go_call fn14 (order_Fits_w o x _ rfl) rfl rfl rfl rfl rfl rfl rfl ?_
            refine go_run' ttok 2 rfl ?_
            refine go_gcase rfl rfl rfl (fun g20 => ?_) (fun g20 => ?_)
            · rw [g20]
              replace h := of_bif_t h g20
              refine go_run' ttok 2 rfl ?_
              refine go_call fn14 (order_Fits_w (⟨o.Id, o.Species, o.Product, o.Length, (max o.Grade (min less.1 9)), (max o.Moist (min less.2.2 20000)), less.2.1, o.Minus, o.Plus, o.Price, o.Due⟩ : TOrder) b _ rfl) rfl rfl rfl rfl rfl rfl rfl ?_
              refine go_run' ttok 3 rfl ?_
              refine go_gcase rfl rfl rfl (fun g21 => ?_) (fun g21 => ?_)
              · rw [g21]
                replace h := of_bif_t h g21
                refine go_run' ttok 2 rfl ?_
                refine go_call fn14 (order_Fits_w (⟨o.Id, o.Species, o.Product, o.Length, (max o.Grade (min less.1 9)), (max o.Moist (min less.2.2 20000)), less.2.1, o.Minus, o.Plus, o.Price, o.Due⟩ : TOrder) x _ rfl) rfl rfl rfl rfl rfl rfl rfl ?_
                refine go_run' ttok 3 rfl ?_
                refine go_gcase rfl rfl rfl (fun g22 => ?_) (fun g22 => ?_)
                · rw [g22]
                  replace h := of_bif_t h g22
                  obtain ⟨av4, hv23, h⟩ := of_obind h
                  refine go_call fn11 (l46_awake_w av4 hv23) rfl rfl rfl rfl rfl rfl rfl ?_
                  refine go_run' ttok 2 rfl ?_
                  refine go_nil nd ?_
                  refine then_norm ?_
                  refine awp_ret ?_
                  have e24 := of_some h
                  subst e24
                  refine ret_ret ?_
                  refine fin0 ttok rfl rfl ?_
                  exact (wkP_refl _ rfl)
                · rw [g22]
                  replace h := of_bif_f h g22
                  refine go_run' ttok 3 rfl ?_
                  refine go_nil nd ?_
                  refine then_norm ?_
                  refine awp_ret ?_
                  have e25 := of_some h
                  subst e25
                  refine ret_ret ?_
                  refine fin0 ttok rfl rfl ?_
                  exact (wkP_refl _ rfl)
              · rw [g21]
                replace h := of_bif_f h g21
                refine go_run' ttok 9 rfl ?_
                refine go_nil nd ?_
                refine then_norm ?_
                refine awp_ret ?_
                have e26 := of_some h
                subst e26
                refine ret_ret ?_
                refine fin0 ttok rfl rfl ?_
                exact (wkP_refl _ rfl)
            · rw [g20]
              replace h := of_bif_f h g20
              refine go_run' ttok 15 rfl ?_
              refine go_nil nd ?_
              refine then_norm ?_
              refine awp_ret ?_
              have e27 := of_some h
              subst e27
              refine ret_ret ?_
              refine fin0 ttok rfl rfl ?_
              exact (wkP_refl _ rfl)

end Go.Proofs.Ytmfgheklnjmbjaa
