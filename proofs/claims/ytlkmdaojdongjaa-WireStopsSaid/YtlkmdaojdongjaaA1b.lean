/- A1b: what functions of the program compute (written by mod.py). -/
import Derived.Test.YtlkmdaojdongjaaA1a
import Derived.KernelRfl
namespace Go.Proofs.Ytlkmdaojdongjaa
open Go Go.Ab
set_option linter.unusedSimpArgs false
set_option linter.unusedVariables false
set_option maxRecDepth 20000

noncomputable def r05_number_s1 (s : ByteArray) (vat : Int) (n : Int) (vunit : Int) (i : Int) : Option ((Int × Int × Int) ⊕ ((Int × Int × Int) ⊕ Unit)) :=
  (bif (decide (i < 10)) then (bif (decide (((s.size : Nat) : Int) ≤ (W64 (vat + i)))) then some (Sum.inr (Sum.inl (0, vat, 3))) else (Option.bind (bytO s (W64 (vat + i))) (fun c => (Option.bind ((bif (i == 9) then (bif (decide (1 < (WU64 c))) then some (Sum.inl (Sum.inr (Sum.inl (0, vat, 5)))) else some (Sum.inr ())) else some (Sum.inr ())) : Option (((Int × Int × Int) ⊕ ((Int × Int × Int) ⊕ Unit)) ⊕ Unit)) (Sum.elim (fun q => some q) (fun _ => (bif (decide ((WU64 c) < 128)) then (bif ((WU64 c) == 0) then (bif (decide (0 < i)) then some (Sum.inr (Sum.inl (0, vat, 5))) else some (Sum.inr (Sum.inl ((WU64 (n + (WU64 ((Int.tmod (WU64 c) 128) * vunit)))), (W64 ((W64 (vat + i)) + 1)), 0)))) else some (Sum.inr (Sum.inl ((WU64 (n + (WU64 ((Int.tmod (WU64 c) 128) * vunit)))), (W64 ((W64 (vat + i)) + 1)), 0)))) else some (Sum.inl ((WU64 (n + (WU64 ((Int.tmod (WU64 c) 128) * vunit)))), (WU64 (vunit * 128)), (W64 (i + 1))))))))))) else some (Sum.inr (Sum.inr ())))
/-- sawmill/sawmillref05.number -/
noncomputable def r05_number_g (s : ByteArray) (vat : Int) : Option (Int × Int × Int) :=
  (Option.bind ((loopO (fun q => r05_number_s1 s vat q.1 q.2.1 q.2.2) (0, 1, 0)) : Option ((Int × Int × Int) ⊕ Unit)) (Sum.elim (fun q => some q) (fun _ => some (0, vat, 5))))
theorem r05_number_w (s : ByteArray) (vat : Int) (r : (Int × Int × Int)) (h : r05_number_g s vat = some r) : Holds Try.prog 50 [(S s), (I vat)] [] (.tup [(U64 r.1), (I r.2.1), (I r.2.2)]) [] := by
  unfold r05_number_g at h
  refine holds_fn Try.func50 rfl Try.ntmps50 rfl rfl rfl ?_
  refine awp_seq ?_
  refine awp_go hmix ?_
  refine go_run' ttok 3 rfl ?_
  refine go_nil nd ?_
  refine then_norm ?_
  refine awp_seq ?_
  refine awp_go hmix ?_
  refine go_run' ttok 2 rfl ?_
  refine go_nil nd ?_
  refine then_norm ?_
  obtain ⟨y, hx1, h⟩ := of_obind h
  refine awp_seqJ (X := Unit) [1] [] (fun _ => []) (fun _ => []) (fun w => Sum.inr w = y) rfl rfl ?_ ?_
  · skip
    refine awp_seq ?_
    refine awp_go hmix ?_
    refine go_run' ttok 1 rfl ?_
    refine go_nil nd ?_
    refine then_norm ?_
    refine awp_block ?_
    refine awp_loopD (X := (Int × Int × Int)) (Y := ((Int × Int × Int) ⊕ Unit)) [0, 1] [] (fun q => [(7, (U64 q.1)), (8, (U64 q.2.1)), (9, (I q.2.2))]) (fun q => []) (fun q => r05_number_s1 s vat q.1 q.2.1 q.2.2) (0, 1, 0) [] hx1 ⟨rfl, rfl, rfl, rfl, rfl, ⟨wkP_id _ rfl, wkP_id _ rfl, wkP_id _ rfl, trivial⟩, trivial⟩ (fun x vR vz hz3 hk4 => ?_)
    obtain ⟨n, vunit, i⟩ := x
    change r05_number_s1 s vat n vunit i = _ at hz3
    unfold r05_number_s1 at hz3
    refine awp_seq ?_
    refine awp_seq ?_
    refine awp_go hmix ?_
    refine go_run' ttok 2 rfl ?_
    refine go_nil nd ?_
    refine then_norm ?_
    refine awp_cond (b := (decide (i < 10))) rfl (fun c5 => ?_) (fun c5 => ?_)
    · replace hz3 := of_bif_t hz3 c5
      refine awp_skip ?_
      refine then_norm ?_
      refine awp_seq ?_
      refine awp_block ?_
      refine awp_seq ?_
      refine awp_seq ?_
      refine awp_go hmix ?_
      refine go_run' ttok 6 rfl ?_
      refine go_nil nd ?_
      refine then_norm ?_
      refine awp_cond (b := (decide (((s.size : Nat) : Int) ≤ (W64 (vat + i))))) rfl (fun c6 => ?_) (fun c6 => ?_)
      · replace hz3 := of_bif_t hz3 c6
        refine awp_seq ?_
        refine awp_go hmix ?_
        refine go_run' ttok 4 rfl ?_
        refine go_nil nd ?_
        refine then_norm ?_
        refine awp_ret ?_
        refine then_ret ?_
        refine block_ret ?_
        refine then_ret ?_
        obtain ⟨t, hn7, hq⟩ := of_mapr' hz3
        subst hq
        have hq : t = _ := hk4
        subst hq
        refine then_ret ?_
        refine block_ret ?_
        obtain ⟨t1, hn8, hq⟩ := of_mapl' hn7
        subst hq
        have hq := of_inl h
        replace hq := of_some hq
        subst hq
        refine then_ret ?_
        have e9 := of_some hn8
        subst e9
        refine ret_ret ?_
        refine fin0 ttok rfl rfl ?_
        exact wkP_refl _ rfl
      · replace hz3 := of_bif_f hz3 c6
        refine awp_skip ?_
        refine then_norm ?_
        refine awp_seq ?_
        refine awp_go hmix ?_
        refine go_run' ttok 4 rfl ?_
        obtain ⟨c, hv10, hz3⟩ := of_obind hz3
        refine go_indexB s (W64 (vat + i)) c hv10 ttok rfl rfl rfl rfl rfl rfl rfl ?_
        refine go_run' ttok 2 rfl ?_
        refine go_nil nd ?_
        refine then_norm ?_
        obtain ⟨y1, hx11, hz3⟩ := of_obind hz3
        refine awp_seqJ (X := Unit) [0, 1, 7, 8, 9, 10] [] (fun _ => []) (fun _ => []) (fun w1 => Sum.inr w1 = y1) rfl rfl ?_ ?_
        · skip
          refine awp_seq ?_
          refine awp_go hmix ?_
          refine go_run' ttok 3 rfl ?_
          refine go_gcase rfl rfl rfl (fun g13 => ?_) (fun g13 => ?_)
          · rw [g13]
            replace hx11 := of_bif_t hx11 g13
            refine go_run' ttok 3 rfl ?_
            refine go_nil nd ?_
            refine then_norm ?_
            refine awp_cond (b := (decide (1 < (WU64 c)))) rfl (fun c14 => ?_) (fun c14 => ?_)
            · replace hx11 := of_bif_t hx11 c14
              refine awp_seq ?_
              refine awp_go hmix ?_
              refine go_run' ttok 4 rfl ?_
              refine go_nil nd ?_
              refine then_norm ?_
              refine awp_ret ?_
              obtain ⟨t2, hn15, hq⟩ := of_mapl' hx11
              subst hq
              have hq := of_inl hz3
              replace hq := of_some hq
              subst hq
              refine then_ret ?_
              refine block_ret ?_
              refine then_ret ?_
              obtain ⟨t3, hn16, hq⟩ := of_mapr' hn15
              subst hq
              have hq : t3 = _ := hk4
              subst hq
              refine then_ret ?_
              refine block_ret ?_
              obtain ⟨t4, hn17, hq⟩ := of_mapl' hn16
              subst hq
              have hq := of_inl h
              replace hq := of_some hq
              subst hq
              refine then_ret ?_
              have e18 := of_some hn17
              subst e18
              refine ret_ret ?_
              refine fin0 ttok rfl rfl ?_
              exact wkP_refl _ rfl
            · replace hx11 := of_bif_f hx11 c14
              refine awp_skip ?_
              have e19 := of_some hx11
              refine then_norm ⟨rfl, (), [], ⟨rfl, rfl, rfl, rfl, rfl, trivial, trivial⟩, e19⟩
          · rw [g13]
            replace hx11 := of_bif_f hx11 g13
            refine go_run' ttok 3 rfl ?_
            refine go_nil nd ?_
            refine then_norm ?_
            refine awp_cond rfl (fun h => by cases h) (fun tt0 => ?_)
            clear tt0
            refine awp_skip ?_
            have e20 := of_some hx11
            refine then_norm ⟨rfl, (), [], ⟨rfl, rfl, rfl, rfl, rfl, trivial, trivial⟩, e20⟩
        · intro w1 hw12
          subst hw12
          replace hz3 := of_inr hz3
          refine awp_seq ?_
          refine awp_go hmix ?_
          refine go_run' ttok 7 rfl ?_
          refine go_nil nd ?_
          refine then_norm ?_
          refine awp_seq ?_
          refine awp_go hmix ?_
          refine go_run' ttok 3 rfl ?_
          refine go_nil nd ?_
          refine then_norm ?_
          refine awp_seq ?_
          refine awp_go hmix ?_
          refine go_run' ttok 2 rfl ?_
          refine go_nil nd ?_
          refine then_norm ?_
          refine awp_cond (b := (decide ((WU64 c) < 128))) rfl (fun c21 => ?_) (fun c21 => ?_)
          · replace hz3 := of_bif_t hz3 c21
            refine awp_seq ?_
            refine awp_seq ?_
            refine awp_go hmix ?_
            refine go_run' ttok 3 rfl ?_
            refine go_gcase rfl rfl rfl (fun g22 => ?_) (fun g22 => ?_)
            · rw [g22]
              replace hz3 := of_bif_t hz3 g22
              refine go_run' ttok 3 rfl ?_
              refine go_nil nd ?_
              refine then_norm ?_
              refine awp_cond (b := (decide (0 < i))) rfl (fun c23 => ?_) (fun c23 => ?_)
              · replace hz3 := of_bif_t hz3 c23
                refine awp_seq ?_
                refine awp_go hmix ?_
                refine go_run' ttok 4 rfl ?_
                refine go_nil nd ?_
                refine then_norm ?_
                refine awp_ret ?_
                refine then_ret ?_
                refine block_ret ?_
                refine then_ret ?_
                obtain ⟨t5, hn24, hq⟩ := of_mapr' hz3
                subst hq
                have hq : t5 = _ := hk4
                subst hq
                refine then_ret ?_
                refine block_ret ?_
                obtain ⟨t6, hn25, hq⟩ := of_mapl' hn24
                subst hq
                have hq := of_inl h
                replace hq := of_some hq
                subst hq
                refine then_ret ?_
                have e26 := of_some hn25
                subst e26
                refine ret_ret ?_
                refine fin0 ttok rfl rfl ?_
                exact wkP_refl _ rfl
              · replace hz3 := of_bif_f hz3 c23
                refine awp_skip ?_
                refine then_norm ?_
                refine awp_seq ?_
                refine awp_go hmix ?_
                refine go_run' ttok 8 rfl ?_
                refine go_nil nd ?_
                refine then_norm ?_
                refine awp_ret ?_
                refine block_ret ?_
                refine then_ret ?_
                obtain ⟨t7, hn27, hq⟩ := of_mapr' hz3
                subst hq
                have hq : t7 = _ := hk4
                subst hq
                refine then_ret ?_
                refine block_ret ?_
                obtain ⟨t8, hn28, hq⟩ := of_mapl' hn27
                subst hq
                have hq := of_inl h
                replace hq := of_some hq
                subst hq
                refine then_ret ?_
                have e29 := of_some hn28
                subst e29
                refine ret_ret ?_
                refine fin0 ttok rfl rfl ?_
                exact wkP_refl _ rfl
            · rw [g22]
              replace hz3 := of_bif_f hz3 g22
              refine go_run' ttok 3 rfl ?_
              refine go_nil nd ?_
              refine then_norm ?_
              refine awp_cond rfl (fun h => by cases h) (fun tt0 => ?_)
              clear tt0
              refine awp_skip ?_
              refine then_norm ?_
              refine awp_seq ?_
              refine awp_go hmix ?_
              refine go_run' ttok 8 rfl ?_
              refine go_nil nd ?_
              refine then_norm ?_
              refine awp_ret ?_
              refine block_ret ?_
              refine then_ret ?_
              obtain ⟨t9, hn30, hq⟩ := of_mapr' hz3
              subst hq
              have hq : t9 = _ := hk4
              subst hq
              refine then_ret ?_
              refine block_ret ?_
              obtain ⟨t10, hn31, hq⟩ := of_mapl' hn30
              subst hq
              have hq := of_inl h
              replace hq := of_some hq
              subst hq
              refine then_ret ?_
              have e32 := of_some hn31
              subst e32
              refine ret_ret ?_
              refine fin0 ttok rfl rfl ?_
              exact wkP_refl _ rfl
          · replace hz3 := of_bif_f hz3 c21
            refine awp_skip ?_
            refine block_norm ?_
            refine then_norm ?_
            refine awp_go hmix ?_
            refine go_run' ttok 3 rfl ?_
            refine go_nil nd ?_
            have e33 := of_some hz3
            subst e33
            refine then_norm ⟨rfl, ((WU64 (n + (WU64 ((Int.tmod (WU64 c) 128) * vunit)))), (WU64 (vunit * 128)), (W64 (i + 1))), [], ⟨rfl, rfl, rfl, rfl, rfl, ⟨wkP_id _ rfl, wkP_id _ rfl, wkP_id _ rfl, trivial⟩, trivial⟩, hk4⟩
    · replace hz3 := of_bif_f hz3 c5
      refine awp_exit ?_
      refine then_exit ?_
      obtain ⟨t11, hn34, hq⟩ := of_mapr' hz3
      subst hq
      have hq : t11 = _ := hk4
      subst hq
      refine then_exit ?_
      refine block_here ?_
      have e35 := of_some hn34
      refine then_norm ⟨rfl, (), [], ⟨rfl, rfl, rfl, rfl, rfl, trivial, trivial⟩, e35⟩
  · intro w hw2
    subst hw2
    replace h := of_inr h
    refine awp_seq ?_
    refine awp_go hmix ?_
    refine go_run' ttok 4 rfl ?_
    refine go_nil nd ?_
    refine then_norm ?_
    refine awp_ret ?_
    have e36 := of_some h
    subst e36
    refine ret_ret ?_
    refine fin0 ttok rfl rfl ?_
    exact wkP_refl _ rfl

/-- sawmill/sawmillref05.fail -/
noncomputable def r05_fail_g (vr : Tsawmillref05_Reader) (e : Int) : Tsawmillref05_Reader :=
  (⟨vr.S_, vr.At, e⟩ : Tsawmillref05_Reader)
theorem r05_fail_w (vr : Tsawmillref05_Reader) (e : Int) (r : Tsawmillref05_Reader) (h : r05_fail_g vr e = r) : Holds Try.prog 51 [(encTsawmillref05_Reader vr), (I e)] [] (encTsawmillref05_Reader r) [] := by
  unfold r05_fail_g at h
  refine holds_fn Try.func51 rfl Try.ntmps51 rfl rfl rfl ?_
  refine awp_seq ?_
  refine awp_go hmix ?_
  refine go_run' ttok 2 rfl ?_
  refine go_nil nd ?_
  refine then_norm ?_
  refine awp_seq ?_
  refine awp_go hmix ?_
  refine go_run' ttok 3 rfl ?_
  refine go_nil nd ?_
  refine then_norm ?_
  refine awp_seq ?_
  refine awp_go hmix ?_
  refine go_run' ttok 2 rfl ?_
  refine go_nil nd ?_
  refine then_norm ?_
  refine awp_ret ?_
  have e1 := h
  subst e1
  refine ret_ret ?_
  refine fin0 ttok rfl rfl ?_
  exact (wkP_refl _ rfl)

/-- sawmill/sawmillref05.ReadUint -/
noncomputable def r05_ReadUint_g (vr : Tsawmillref05_Reader) : Option (Tsawmillref05_Reader × Int) :=
  (bif (vr.E != 0) then some (vr, 0) else (Option.bind (r05_number_g vr.S_ vr.At) (fun nv => (bif (nv.2.2 != 0) then (letB (r05_fail_g vr nv.2.2) (fun fv => some (fv, 0))) else some ((⟨vr.S_, nv.2.1, vr.E⟩ : Tsawmillref05_Reader), nv.1)))))
theorem r05_ReadUint_w (vr : Tsawmillref05_Reader) (r : (Tsawmillref05_Reader × Int)) (h : r05_ReadUint_g vr = some r) : Holds Try.prog 28 [(encTsawmillref05_Reader vr)] [] (.tup [(encTsawmillref05_Reader r.1), (U64 r.2)]) [] := by
  unfold r05_ReadUint_g at h
  refine holds_fn Try.func28 rfl Try.ntmps28 rfl rfl rfl ?_
  refine awp_seq ?_
  refine awp_go hmix ?_
  refine go_run' ttok 3 rfl ?_
  refine go_nil nd ?_
  refine then_norm ?_
  refine awp_seq ?_
  refine awp_seq ?_
  refine awp_go hmix ?_
  refine go_run' ttok 3 rfl ?_
  refine go_nil nd ?_
  refine then_norm ?_
  refine awp_cond (b := (vr.E != 0)) rfl (fun c1 => ?_) (fun c1 => ?_)
  · replace h := of_bif_t h c1
    refine awp_seq ?_
    refine awp_go hmix ?_
    refine go_run' ttok 3 rfl ?_
    refine go_nil nd ?_
    refine then_norm ?_
    refine awp_ret ?_
    refine then_ret ?_
    have e2 := of_some h
    subst e2
    refine ret_ret ?_
    refine fin0 ttok rfl rfl ?_
    exact wkP_refl _ rfl
  · replace h := of_bif_f h c1
    refine awp_skip ?_
    refine then_norm ?_
    refine awp_seq ?_
    refine awp_go hmix ?_
    refine go_run' ttok 4 rfl ?_
    obtain ⟨nv, hv3, h⟩ := of_obind h
    refine go_call fn50 (r05_number_w vr.S_ vr.At nv hv3) rfl rfl rfl rfl rfl rfl rfl ?_
    refine go_run' ttok 7 rfl ?_
    refine go_nil nd ?_
    refine then_norm ?_
    refine awp_seq ?_
    refine awp_seq ?_
    refine awp_go hmix ?_
    refine go_run' ttok 2 rfl ?_
    refine go_nil nd ?_
    refine then_norm ?_
    refine awp_cond (b := (nv.2.2 != 0)) rfl (fun c4 => ?_) (fun c4 => ?_)
    · replace h := of_bif_t h c4
      refine awp_seq ?_
      refine awp_go hmix ?_
      refine go_run' ttok 2 rfl ?_
      obtain ⟨fv, hv5, h⟩ := of_let h
      refine go_call fn51 (r05_fail_w vr nv.2.2 fv hv5) rfl rfl rfl rfl rfl rfl rfl ?_
      refine go_run' ttok 2 rfl ?_
      refine go_nil nd ?_
      refine then_norm ?_
      refine awp_ret ?_
      refine then_ret ?_
      have e6 := of_some h
      subst e6
      refine ret_ret ?_
      refine fin0 ttok rfl rfl ?_
      exact wkP_refl _ rfl
    · replace h := of_bif_f h c4
      refine awp_skip ?_
      refine then_norm ?_
      refine awp_seq ?_
      refine awp_go hmix ?_
      refine go_run' ttok 3 rfl ?_
      refine go_nil nd ?_
      refine then_norm ?_
      refine awp_seq ?_
      refine awp_go hmix ?_
      refine go_run' ttok 4 rfl ?_
      refine go_nil nd ?_
      refine then_norm ?_
      refine awp_ret ?_
      have e7 := of_some h
      subst e7
      refine ret_ret ?_
      refine fin0 ttok rfl rfl ?_
      exact wkP_refl _ rfl

/-- sawmill/sawmillref05.signed -/
noncomputable def r05_signed_g (s : ByteArray) (vat : Int) (low : Int) (high : Int) : Option (Int × Int × Int) :=
  (Option.bind (r05_number_g s vat) (fun nv => (bif (nv.2.2 != 0) then some (0, vat, nv.2.2) else (letB ((bif ((Int.tmod nv.1 2) == 1) then (W64 ((W64 (0 - (W64 (WU64 (Int.tdiv nv.1 2))))) - 1)) else (W64 (WU64 (Int.tdiv nv.1 2)))) : Int) (fun n => (bif (decide (n < low)) then some (0, vat, 9) else (bif (decide (high < n)) then some (0, vat, 9) else some (n, nv.2.1, 0))))))))
theorem r05_signed_w (s : ByteArray) (vat : Int) (low : Int) (high : Int) (r : (Int × Int × Int)) (h : r05_signed_g s vat low high = some r) : Holds Try.prog 52 [(S s), (I vat), (I low), (I high)] [] (.tup [(I r.1), (I r.2.1), (I r.2.2)]) [] := by
  unfold r05_signed_g at h
  refine holds_fn Try.func52 rfl Try.ntmps52 rfl rfl rfl ?_
  refine awp_seq ?_
  refine awp_go hmix ?_
  refine go_run' ttok 3 rfl ?_
  refine go_nil nd ?_
  refine then_norm ?_
  refine awp_seq ?_
  refine awp_go hmix ?_
  refine go_run' ttok 2 rfl ?_
  obtain ⟨nv, hv1, h⟩ := of_obind h
  refine go_call fn50 (r05_number_w s vat nv hv1) rfl rfl rfl rfl rfl rfl rfl ?_
  refine go_run' ttok 7 rfl ?_
  refine go_nil nd ?_
  refine then_norm ?_
  refine awp_seq ?_
  refine awp_seq ?_
  refine awp_go hmix ?_
  refine go_run' ttok 2 rfl ?_
  refine go_nil nd ?_
  refine then_norm ?_
  refine awp_cond (b := (nv.2.2 != 0)) rfl (fun c2 => ?_) (fun c2 => ?_)
  · replace h := of_bif_t h c2
    refine awp_seq ?_
    refine awp_go hmix ?_
    refine go_run' ttok 5 rfl ?_
    refine go_nil nd ?_
    refine then_norm ?_
    refine awp_ret ?_
    refine then_ret ?_
    have e3 := of_some h
    subst e3
    refine ret_ret ?_
    refine fin0 ttok rfl rfl ?_
    exact wkP_refl _ rfl
  · replace h := of_bif_f h c2
    refine awp_skip ?_
    refine then_norm ?_
    refine awp_seq ?_
    refine awp_go hmix ?_
    refine go_run' ttok 4 rfl ?_
    refine go_nil nd ?_
    refine then_norm ?_
    obtain ⟨y, hx4, h⟩ := of_let h
    refine awp_seqJ (X := Int) [1, 2, 3, 12] [] (fun w => [(14, (I w))]) (fun w => []) (fun w => w = y) rfl rfl ?_ ?_
    · skip
      refine awp_seq ?_
      refine awp_go hmix ?_
      refine go_run' ttok 3 rfl ?_
      refine go_nil nd ?_
      refine then_norm ?_
      refine awp_cond (b := ((Int.tmod nv.1 2) == 1)) rfl (fun c6 => ?_) (fun c6 => ?_)
      · replace hx4 := of_bif_t hx4 c6
        refine awp_go hmix ?_
        refine go_run' ttok 4 rfl ?_
        refine go_nil nd ?_
        have e7 := hx4
        refine then_norm ⟨rfl, (W64 ((W64 (0 - (W64 (WU64 (Int.tdiv nv.1 2))))) - 1)), [], ⟨rfl, rfl, rfl, rfl, rfl, ⟨wkP_id _ rfl, trivial⟩, trivial⟩, e7⟩
      · replace hx4 := of_bif_f hx4 c6
        refine awp_skip ?_
        have e8 := hx4
        refine then_norm ⟨rfl, (W64 (WU64 (Int.tdiv nv.1 2))), [], ⟨rfl, rfl, rfl, rfl, rfl, ⟨wkP_id _ rfl, trivial⟩, trivial⟩, e8⟩
    · intro n hw5
      subst hw5
      refine awp_seq ?_
      refine awp_seq ?_
      refine awp_go hmix ?_
      refine go_run' ttok 4 rfl ?_
      refine go_gcase rfl rfl rfl (fun g9 => ?_) (fun g9 => ?_)
      · rw [g9]
        replace h := of_bif_t h g9
        refine go_run' ttok 4 rfl ?_
        refine go_nil nd ?_
        refine then_norm ?_
        refine awp_cond rfl (fun tt0 => ?_) (fun h => by cases h)
        clear tt0
        refine awp_seq ?_
        refine awp_go hmix ?_
        refine go_run' ttok 4 rfl ?_
        refine go_nil nd ?_
        refine then_norm ?_
        refine awp_ret ?_
        refine then_ret ?_
        have e10 := of_some h
        subst e10
        refine ret_ret ?_
        refine fin0 ttok rfl rfl ?_
        exact wkP_refl _ rfl
      · rw [g9]
        replace h := of_bif_f h g9
        refine go_run' ttok 4 rfl ?_
        refine go_nil nd ?_
        refine then_norm ?_
        refine awp_cond (b := (decide (high < n))) rfl (fun c11 => ?_) (fun c11 => ?_)
        · replace h := of_bif_t h c11
          refine awp_seq ?_
          refine awp_go hmix ?_
          refine go_run' ttok 4 rfl ?_
          refine go_nil nd ?_
          refine then_norm ?_
          refine awp_ret ?_
          refine then_ret ?_
          have e12 := of_some h
          subst e12
          refine ret_ret ?_
          refine fin0 ttok rfl rfl ?_
          exact wkP_refl _ rfl
        · replace h := of_bif_f h c11
          refine awp_skip ?_
          refine then_norm ?_
          refine awp_seq ?_
          refine awp_go hmix ?_
          refine go_run' ttok 5 rfl ?_
          refine go_nil nd ?_
          refine then_norm ?_
          refine awp_ret ?_
          have e13 := of_some h
          subst e13
          refine ret_ret ?_
          refine fin0 ttok rfl rfl ?_
          exact wkP_refl _ rfl

/-- sawmill/sawmillref05.ReadInt -/
noncomputable def r05_ReadInt_g (vr : Tsawmillref05_Reader) (low : Int) (high : Int) : Option (Tsawmillref05_Reader × Int) :=
  (bif (vr.E != 0) then some (vr, 0) else (Option.bind (r05_signed_g vr.S_ vr.At low high) (fun sv => (bif (sv.2.2 != 0) then (letB (r05_fail_g vr sv.2.2) (fun fv => some (fv, 0))) else some ((⟨vr.S_, sv.2.1, vr.E⟩ : Tsawmillref05_Reader), sv.1)))))
theorem r05_ReadInt_w (vr : Tsawmillref05_Reader) (low : Int) (high : Int) (r : (Tsawmillref05_Reader × Int)) (h : r05_ReadInt_g vr low high = some r) : Holds Try.prog 29 [(encTsawmillref05_Reader vr), (I low), (I high)] [] (.tup [(encTsawmillref05_Reader r.1), (I r.2)]) [] := by
  unfold r05_ReadInt_g at h
  refine holds_fn Try.func29 rfl Try.ntmps29 rfl rfl rfl ?_
  refine awp_seq ?_
  refine awp_go hmix ?_
  refine go_run' ttok 3 rfl ?_
  refine go_nil nd ?_
  refine then_norm ?_
  refine awp_seq ?_
  refine awp_seq ?_
  refine awp_go hmix ?_
  refine go_run' ttok 3 rfl ?_
  refine go_nil nd ?_
  refine then_norm ?_
  refine awp_cond (b := (vr.E != 0)) rfl (fun c1 => ?_) (fun c1 => ?_)
  · replace h := of_bif_t h c1
    refine awp_seq ?_
    refine awp_go hmix ?_
    refine go_run' ttok 3 rfl ?_
    refine go_nil nd ?_
    refine then_norm ?_
    refine awp_ret ?_
    refine then_ret ?_
    have e2 := of_some h
    subst e2
    refine ret_ret ?_
    refine fin0 ttok rfl rfl ?_
    exact wkP_refl _ rfl
  · replace h := of_bif_f h c1
    refine awp_skip ?_
    refine then_norm ?_
    refine awp_seq ?_
    refine awp_go hmix ?_
    refine go_run' ttok 6 rfl ?_
    obtain ⟨sv, hv3, h⟩ := of_obind h
    refine go_call fn52 (r05_signed_w vr.S_ vr.At low high sv hv3) rfl rfl rfl rfl rfl rfl rfl ?_
    refine go_run' ttok 7 rfl ?_
    refine go_nil nd ?_
    refine then_norm ?_
    refine awp_seq ?_
    refine awp_seq ?_
    refine awp_go hmix ?_
    refine go_run' ttok 2 rfl ?_
    refine go_nil nd ?_
    refine then_norm ?_
    refine awp_cond (b := (sv.2.2 != 0)) rfl (fun c4 => ?_) (fun c4 => ?_)
    · replace h := of_bif_t h c4
      refine awp_seq ?_
      refine awp_go hmix ?_
      refine go_run' ttok 2 rfl ?_
      obtain ⟨fv, hv5, h⟩ := of_let h
      refine go_call fn51 (r05_fail_w vr sv.2.2 fv hv5) rfl rfl rfl rfl rfl rfl rfl ?_
      refine go_run' ttok 2 rfl ?_
      refine go_nil nd ?_
      refine then_norm ?_
      refine awp_ret ?_
      refine then_ret ?_
      have e6 := of_some h
      subst e6
      refine ret_ret ?_
      refine fin0 ttok rfl rfl ?_
      exact wkP_refl _ rfl
    · replace h := of_bif_f h c4
      refine awp_skip ?_
      refine then_norm ?_
      refine awp_seq ?_
      refine awp_go hmix ?_
      refine go_run' ttok 3 rfl ?_
      refine go_nil nd ?_
      refine then_norm ?_
      refine awp_seq ?_
      refine awp_go hmix ?_
      refine go_run' ttok 4 rfl ?_
      refine go_nil nd ?_
      refine then_norm ?_
      refine awp_ret ?_
      have e7 := of_some h
      subst e7
      refine ret_ret ?_
      refine fin0 ttok rfl rfl ?_
      exact wkP_refl _ rfl

/-- sawmill/sawmillref05.ReadText -/
noncomputable def r05_ReadText_g (vr : Tsawmillref05_Reader) (most : Int) : Option (Tsawmillref05_Reader × ByteArray) :=
  (bif (vr.E != 0) then some (vr, (⟨#[]⟩ : ByteArray)) else (Option.bind (r05_number_g vr.S_ vr.At) (fun nv => (bif (nv.2.2 != 0) then (letB (r05_fail_g vr nv.2.2) (fun fv => some (fv, (⟨#[]⟩ : ByteArray)))) else (bif (decide (most < 0)) then (letB (r05_fail_g vr 4) (fun fv1 => some (fv1, (⟨#[]⟩ : ByteArray)))) else (bif (decide ((WU64 most) < nv.1)) then (letB (r05_fail_g vr 4) (fun fv2 => some (fv2, (⟨#[]⟩ : ByteArray)))) else (bif (decide ((WU64 (W64 (((vr.S_.size : Nat) : Int) - nv.2.1))) < nv.1)) then (letB (r05_fail_g vr 3) (fun fv3 => some (fv3, (⟨#[]⟩ : ByteArray)))) else (Option.bind (ssubO vr.S_ nv.2.1 (W64 (nv.2.1 + (W64 nv.1)))) (fun t => some ((⟨vr.S_, (W64 (nv.2.1 + (W64 nv.1))), vr.E⟩ : Tsawmillref05_Reader), t))))))))))
theorem r05_ReadText_w (vr : Tsawmillref05_Reader) (most : Int) (r : (Tsawmillref05_Reader × ByteArray)) (h : r05_ReadText_g vr most = some r) : Holds Try.prog 30 [(encTsawmillref05_Reader vr), (I most)] [] (.tup [(encTsawmillref05_Reader r.1), (S r.2)]) [] := by
  unfold r05_ReadText_g at h
  refine holds_fn Try.func30 rfl Try.ntmps30 rfl rfl rfl ?_
  refine awp_seq ?_
  refine awp_go hmix ?_
  refine go_run' ttok 3 rfl ?_
  refine go_nil nd ?_
  refine then_norm ?_
  refine awp_seq ?_
  refine awp_seq ?_
  refine awp_go hmix ?_
  refine go_run' ttok 3 rfl ?_
  refine go_nil nd ?_
  refine then_norm ?_
  refine awp_cond (b := (vr.E != 0)) rfl (fun c1 => ?_) (fun c1 => ?_)
  · replace h := of_bif_t h c1
    refine awp_seq ?_
    refine awp_go hmix ?_
    refine go_run' ttok 3 rfl ?_
    refine go_nil nd ?_
    refine then_norm ?_
    refine awp_ret ?_
    refine then_ret ?_
    have e2 := of_some h
    subst e2
    refine ret_ret ?_
    refine fin0 ttok rfl rfl ?_
    exact wkP_refl _ rfl
  · replace h := of_bif_f h c1
    refine awp_skip ?_
    refine then_norm ?_
    refine awp_seq ?_
    refine awp_go hmix ?_
    refine go_run' ttok 4 rfl ?_
    obtain ⟨nv, hv3, h⟩ := of_obind h
    refine go_call fn50 (r05_number_w vr.S_ vr.At nv hv3) rfl rfl rfl rfl rfl rfl rfl ?_
    refine go_run' ttok 7 rfl ?_
    refine go_nil nd ?_
    refine then_norm ?_
    refine awp_seq ?_
    refine awp_seq ?_
    refine awp_go hmix ?_
    refine go_run' ttok 2 rfl ?_
    refine go_nil nd ?_
    refine then_norm ?_
    refine awp_cond (b := (nv.2.2 != 0)) rfl (fun c4 => ?_) (fun c4 => ?_)
    · replace h := of_bif_t h c4
      refine awp_seq ?_
      refine awp_go hmix ?_
      refine go_run' ttok 2 rfl ?_
      obtain ⟨fv, hv5, h⟩ := of_let h
      refine go_call fn51 (r05_fail_w vr nv.2.2 fv hv5) rfl rfl rfl rfl rfl rfl rfl ?_
      refine go_run' ttok 2 rfl ?_
      refine go_nil nd ?_
      refine then_norm ?_
      refine awp_ret ?_
      refine then_ret ?_
      have e6 := of_some h
      subst e6
      refine ret_ret ?_
      refine fin0 ttok rfl rfl ?_
      exact wkP_refl _ rfl
    · replace h := of_bif_f h c4
      refine awp_skip ?_
      refine then_norm ?_
      refine awp_seq ?_
      refine awp_seq ?_
      refine awp_go hmix ?_
      refine go_run' ttok 3 rfl ?_
      refine go_gcase rfl rfl rfl (fun g7 => ?_) (fun g7 => ?_)
      · rw [g7]
        replace h := of_bif_t h g7
        refine go_run' ttok 5 rfl ?_
        refine go_nil nd ?_
        refine then_norm ?_
        refine awp_cond rfl (fun tt0 => ?_) (fun h => by cases h)
        clear tt0
        refine awp_seq ?_
        refine awp_go hmix ?_
        refine go_run' ttok 1 rfl ?_
        obtain ⟨fv1, hv8, h⟩ := of_let h
        refine go_call fn51 (r05_fail_w vr 4 fv1 hv8) rfl rfl rfl rfl rfl rfl rfl ?_
        refine go_run' ttok 2 rfl ?_
        refine go_nil nd ?_
        refine then_norm ?_
        refine awp_ret ?_
        refine then_ret ?_
        have e9 := of_some h
        subst e9
        refine ret_ret ?_
        refine fin0 ttok rfl rfl ?_
        exact wkP_refl _ rfl
      · rw [g7]
        replace h := of_bif_f h g7
        refine go_run' ttok 5 rfl ?_
        refine go_nil nd ?_
        refine then_norm ?_
        refine awp_cond (b := (decide ((WU64 most) < nv.1))) rfl (fun c10 => ?_) (fun c10 => ?_)
        · replace h := of_bif_t h c10
          refine awp_seq ?_
          refine awp_go hmix ?_
          refine go_run' ttok 1 rfl ?_
          obtain ⟨fv2, hv11, h⟩ := of_let h
          refine go_call fn51 (r05_fail_w vr 4 fv2 hv11) rfl rfl rfl rfl rfl rfl rfl ?_
          refine go_run' ttok 2 rfl ?_
          refine go_nil nd ?_
          refine then_norm ?_
          refine awp_ret ?_
          refine then_ret ?_
          have e12 := of_some h
          subst e12
          refine ret_ret ?_
          refine fin0 ttok rfl rfl ?_
          exact wkP_refl _ rfl
        · replace h := of_bif_f h c10
          refine awp_skip ?_
          refine then_norm ?_
          refine awp_seq ?_
          refine awp_seq ?_
          refine awp_go hmix ?_
          refine go_run' ttok 8 rfl ?_
          refine go_nil nd ?_
          refine then_norm ?_
          refine awp_cond (b := (decide ((WU64 (W64 (((vr.S_.size : Nat) : Int) - nv.2.1))) < nv.1))) rfl (fun c13 => ?_) (fun c13 => ?_)
          · replace h := of_bif_t h c13
            refine awp_seq ?_
            refine awp_go hmix ?_
            refine go_run' ttok 1 rfl ?_
            obtain ⟨fv3, hv14, h⟩ := of_let h
            refine go_call fn51 (r05_fail_w vr 3 fv3 hv14) rfl rfl rfl rfl rfl rfl rfl ?_
            refine go_run' ttok 2 rfl ?_
            refine go_nil nd ?_
            refine then_norm ?_
            refine awp_ret ?_
            refine then_ret ?_
            have e15 := of_some h
            subst e15
            refine ret_ret ?_
            refine fin0 ttok rfl rfl ?_
            exact wkP_refl _ rfl
          · replace h := of_bif_f h c13
            refine awp_skip ?_
            refine then_norm ?_
            refine awp_seq ?_
            refine awp_go hmix ?_
            refine go_run' ttok 6 rfl ?_
            refine go_nil nd ?_
            refine then_norm ?_
            refine awp_seq ?_
            refine awp_go hmix ?_
            refine go_run' ttok 6 rfl ?_
            obtain ⟨t, hv16, h⟩ := of_obind h
            refine go_sliceS vr.S_ t nv.2.1 (W64 (nv.2.1 + (W64 nv.1))) hv16 ttok rfl rfl rfl rfl rfl ⟨_, rfl⟩ ⟨_, rfl⟩ rfl ?_
            refine go_run' ttok 2 rfl ?_
            refine go_nil (fun _ => by kernel_rfl) ?_
            refine then_norm ?_
            refine awp_ret ?_
            have e17 := of_some h
            subst e17
            refine ret_ret ?_
            refine fin0 ttok rfl rfl ?_
            exact wkP_refl _ rfl

noncomputable def r05_ReadInts_s1 (vr : Tsawmillref05_Reader) (low : Int) (high : Int) (nv : (Int × Int × Int)) (vnext1 : Int) (l1 : (List Int)) : Option ((Int × (List Int)) ⊕ ((Tsawmillref05_Reader × (List Int)) ⊕ (Int × (List Int)))) :=
  (bif (decide ((WU64 ((l1.length : Nat) : Int)) < nv.1)) then (Option.bind (r05_signed_g vr.S_ vnext1 low high) (fun sv => (bif (sv.2.2 != 0) then (letB (r05_fail_g vr sv.2.2) (fun fv3 => some (Sum.inr (Sum.inl (fv3, []))))) else (Option.bind (appO 8 l1 ([sv.1])) (fun l2 => some (Sum.inl (sv.2.1, l2))))))) else some (Sum.inr (Sum.inr (vnext1, l1))))
/-- sawmill/sawmillref05.ReadInts -/
noncomputable def r05_ReadInts_g (vr : Tsawmillref05_Reader) (most : Int) (low : Int) (high : Int) : Option (Tsawmillref05_Reader × (List Int)) :=
  (bif (vr.E != 0) then some (vr, []) else (Option.bind (r05_number_g vr.S_ vr.At) (fun nv => (bif (nv.2.2 != 0) then (letB (r05_fail_g vr nv.2.2) (fun fv => some (fv, []))) else (bif (decide (most < 0)) then (letB (r05_fail_g vr 4) (fun fv1 => some (fv1, []))) else (bif (decide ((WU64 most) < nv.1)) then (letB (r05_fail_g vr 4) (fun fv2 => some (fv2, []))) else (Option.bind ((loopO (fun q => r05_ReadInts_s1 vr low high nv q.1 q.2) (nv.2.1, ([] : List Int))) : Option ((Tsawmillref05_Reader × (List Int)) ⊕ (Int × (List Int)))) (Sum.elim (fun q => some q) (fun w1 => some ((⟨vr.S_, w1.1, vr.E⟩ : Tsawmillref05_Reader), w1.2))))))))))
theorem r05_ReadInts_w (vr : Tsawmillref05_Reader) (most : Int) (low : Int) (high : Int) (r : (Tsawmillref05_Reader × (List Int))) (h : r05_ReadInts_g vr most low high = some r) : Holds Try.prog 31 [(encTsawmillref05_Reader vr), (I most), (I low), (I high)] [] (.tup [(encTsawmillref05_Reader r.1), ((encL I) r.2)]) [] := by
  unfold r05_ReadInts_g at h
  refine holds_fn Try.func31 rfl Try.ntmps31 rfl rfl rfl ?_
  refine awp_seq ?_
  refine awp_go hmix ?_
  refine go_run' ttok 3 rfl ?_
  refine go_nil nd ?_
  refine then_norm ?_
  refine awp_seq ?_
  refine awp_seq ?_
  refine awp_go hmix ?_
  refine go_run' ttok 3 rfl ?_
  refine go_nil nd ?_
  refine then_norm ?_
  refine awp_cond (b := (vr.E != 0)) rfl (fun c1 => ?_) (fun c1 => ?_)
  · replace h := of_bif_t h c1
    refine awp_seq ?_
    refine awp_go hmix ?_
    refine go_run' ttok 3 rfl ?_
    refine go_nil nd ?_
    refine then_norm ?_
    refine awp_ret ?_
    refine then_ret ?_
    have e2 := of_some h
    subst e2
    refine ret_ret ?_
    refine fin0 ttok rfl rfl ?_
    exact ⟨(wkP_refl _ rfl), wkP_nilm, trivial⟩
  · replace h := of_bif_f h c1
    refine awp_skip ?_
    refine then_norm ?_
    refine awp_seq ?_
    refine awp_go hmix ?_
    refine go_run' ttok 4 rfl ?_
    obtain ⟨nv, hv3, h⟩ := of_obind h
    refine go_call fn50 (r05_number_w vr.S_ vr.At nv hv3) rfl rfl rfl rfl rfl rfl rfl ?_
    refine go_run' ttok 7 rfl ?_
    refine go_nil nd ?_
    refine then_norm ?_
    refine awp_seq ?_
    refine awp_seq ?_
    refine awp_go hmix ?_
    refine go_run' ttok 2 rfl ?_
    refine go_nil nd ?_
    refine then_norm ?_
    refine awp_cond (b := (nv.2.2 != 0)) rfl (fun c4 => ?_) (fun c4 => ?_)
    · replace h := of_bif_t h c4
      refine awp_seq ?_
      refine awp_go hmix ?_
      refine go_run' ttok 2 rfl ?_
      obtain ⟨fv, hv5, h⟩ := of_let h
      refine go_call fn51 (r05_fail_w vr nv.2.2 fv hv5) rfl rfl rfl rfl rfl rfl rfl ?_
      refine go_run' ttok 2 rfl ?_
      refine go_nil nd ?_
      refine then_norm ?_
      refine awp_ret ?_
      refine then_ret ?_
      have e6 := of_some h
      subst e6
      refine ret_ret ?_
      refine fin0 ttok rfl rfl ?_
      exact ⟨(wkP_refl _ rfl), wkP_nilm, trivial⟩
    · replace h := of_bif_f h c4
      refine awp_skip ?_
      refine then_norm ?_
      refine awp_seq ?_
      refine awp_seq ?_
      refine awp_go hmix ?_
      refine go_run' ttok 3 rfl ?_
      refine go_gcase rfl rfl rfl (fun g7 => ?_) (fun g7 => ?_)
      · rw [g7]
        replace h := of_bif_t h g7
        refine go_run' ttok 5 rfl ?_
        refine go_nil nd ?_
        refine then_norm ?_
        refine awp_cond rfl (fun tt0 => ?_) (fun h => by cases h)
        clear tt0
        refine awp_seq ?_
        refine awp_go hmix ?_
        refine go_run' ttok 1 rfl ?_
        obtain ⟨fv1, hv8, h⟩ := of_let h
        refine go_call fn51 (r05_fail_w vr 4 fv1 hv8) rfl rfl rfl rfl rfl rfl rfl ?_
        refine go_run' ttok 2 rfl ?_
        refine go_nil nd ?_
        refine then_norm ?_
        refine awp_ret ?_
        refine then_ret ?_
        have e9 := of_some h
        subst e9
        refine ret_ret ?_
        refine fin0 ttok rfl rfl ?_
        exact ⟨(wkP_refl _ rfl), wkP_nilm, trivial⟩
      · rw [g7]
        replace h := of_bif_f h g7
        refine go_run' ttok 5 rfl ?_
        refine go_nil nd ?_
        refine then_norm ?_
        refine awp_cond (b := (decide ((WU64 most) < nv.1))) rfl (fun c10 => ?_) (fun c10 => ?_)
        · replace h := of_bif_t h c10
          refine awp_seq ?_
          refine awp_go hmix ?_
          refine go_run' ttok 1 rfl ?_
          obtain ⟨fv2, hv11, h⟩ := of_let h
          refine go_call fn51 (r05_fail_w vr 4 fv2 hv11) rfl rfl rfl rfl rfl rfl rfl ?_
          refine go_run' ttok 2 rfl ?_
          refine go_nil nd ?_
          refine then_norm ?_
          refine awp_ret ?_
          refine then_ret ?_
          have e12 := of_some h
          subst e12
          refine ret_ret ?_
          refine fin0 ttok rfl rfl ?_
          exact ⟨(wkP_refl _ rfl), wkP_nilm, trivial⟩
        · replace h := of_bif_f h c10
          refine awp_skip ?_
          refine then_norm ?_
          refine awp_seq ?_
          refine awp_go hmix ?_
          refine go_run' ttok 2 rfl ?_
          refine go_nil nd ?_
          refine then_norm ?_
          obtain ⟨y, hx13, h⟩ := of_obind h
          refine awp_seqJ (X := (Int × (List Int))) [4, 8] [4, 8] (fun w => [(11, (I w.1)), (13, (.arr 13 0 w.2.length))]) (fun w => [(13, some ⟨3, 1, w.2.map I⟩)]) (fun w => Sum.inr w = y) rfl rfl ?_ ?_
          · skip
            refine awp_block ?_
            refine awp_loopD (X := (Int × (List Int))) (Y := ((Tsawmillref05_Reader × (List Int)) ⊕ (Int × (List Int)))) [2, 3, 4, 8, 10] [4, 8] (fun q => [(11, (I q.1)), (13, (.arr 13 0 q.2.length))]) (fun q => [(13, some ⟨3, 1, q.2.map I⟩)]) (fun q => r05_ReadInts_s1 vr low high nv q.1 q.2) (nv.2.1, ([] : List Int)) [(13, some 45), (4, some 4), (8, some 8)] hx13 ⟨rfl, rfl, rfl, rfl, rfl, ⟨wkP_id _ rfl, ⟨rfl, rfl, (by first | rfl | simp [setI])⟩, trivial⟩, ⟨⟨_, rfl, rfl, rfl, wkX_map (enc := I) ([] : List Int) (fun _ => rfl)⟩, trivial⟩⟩ (fun x vR vz hz15 hk16 => ?_)
            obtain ⟨vnext1, l1⟩ := x
            change r05_ReadInts_s1 vr low high nv vnext1 l1 = _ at hz15
            unfold r05_ReadInts_s1 at hz15
            refine awp_seq ?_
            refine awp_seq ?_
            refine awp_go hmix ?_
            refine go_run' ttok 5 rfl ?_
            refine go_nil nd ?_
            refine then_norm ?_
            refine awp_cond (b := (decide ((WU64 ((l1.length : Nat) : Int)) < nv.1))) rfl (fun c17 => ?_) (fun c17 => ?_)
            · replace hz15 := of_bif_t hz15 c17
              refine awp_skip ?_
              refine then_norm ?_
              refine awp_block ?_
              refine awp_seq ?_
              refine awp_go hmix ?_
              refine go_run' ttok 5 rfl ?_
              obtain ⟨sv, hv18, hz15⟩ := of_obind hz15
              refine go_call fn52 (r05_signed_w vr.S_ vnext1 low high sv hv18) rfl rfl rfl rfl rfl rfl rfl ?_
              refine go_run' ttok 7 rfl ?_
              refine go_nil nd ?_
              refine then_norm ?_
              refine awp_seq ?_
              refine awp_seq ?_
              refine awp_go hmix ?_
              refine go_run' ttok 2 rfl ?_
              refine go_nil nd ?_
              refine then_norm ?_
              refine awp_cond (b := (sv.2.2 != 0)) rfl (fun c19 => ?_) (fun c19 => ?_)
              · replace hz15 := of_bif_t hz15 c19
                refine awp_seq ?_
                refine awp_go hmix ?_
                refine go_run' ttok 2 rfl ?_
                obtain ⟨fv3, hv20, hz15⟩ := of_let hz15
                refine go_call fn51 (r05_fail_w vr sv.2.2 fv3 hv20) rfl rfl rfl rfl rfl rfl rfl ?_
                refine go_run' ttok 2 rfl ?_
                refine go_nil nd ?_
                refine then_norm ?_
                refine awp_ret ?_
                refine then_ret ?_
                refine block_ret ?_
                obtain ⟨t, hn21, hq⟩ := of_mapr' hz15
                subst hq
                have hq : t = _ := hk16
                subst hq
                refine then_ret ?_
                refine block_ret ?_
                obtain ⟨t1, hn22, hq⟩ := of_mapl' hn21
                subst hq
                have hq := of_inl h
                replace hq := of_some hq
                subst hq
                refine then_ret ?_
                have e23 := of_some hn22
                subst e23
                refine ret_ret ?_
                refine fin0 ttok rfl rfl ?_
                exact ⟨(wkP_refl _ rfl), wkP_nilm, trivial⟩
              · replace hz15 := of_bif_f hz15 c19
                refine awp_skip ?_
                refine then_norm ?_
                refine awp_seq ?_
                refine awp_go hmix ?_
                refine go_run' ttok 3 rfl ?_
                obtain ⟨l2, hv24, hz15⟩ := of_obind hz15
                refine go_appT I l1 ([sv.1]) l2 hv24 (fun _ => rfl) (by first | rfl | simp [setI]) (by first | rfl | simp [setI]) ttok rfl rfl rfl rfl rfl rfl rfl rfl rfl rfl rfl rfl rfl rfl rfl rfl rfl ?_
                refine go_run' ttok 1 rfl ?_
                refine go_nil nd ?_
                refine then_norm ?_
                refine awp_go hmix ?_
                refine go_run' ttok 2 rfl ?_
                refine go_nil nd ?_
                refine block_norm ?_
                have e25 := of_some hz15
                subst e25
                refine then_norm ⟨rfl, (sv.2.1, l2), [(13, some 69), (4, some 4), (8, some 8)], ⟨rfl, rfl, rfl, rfl, rfl, ⟨wkP_id _ rfl, ⟨rfl, rfl, (by first | rfl | simp [setI])⟩, trivial⟩, ⟨⟨_, rfl, rfl, rfl, wkX_map (enc := I) l2 (fun _ => rfl)⟩, trivial⟩⟩, hk16⟩
            · replace hz15 := of_bif_f hz15 c17
              refine awp_exit ?_
              refine then_exit ?_
              obtain ⟨t2, hn26, hq⟩ := of_mapr' hz15
              subst hq
              have hq : t2 = _ := hk16
              subst hq
              refine then_exit ?_
              refine block_here ?_
              have e27 := of_some hn26
              refine then_norm ⟨rfl, (vnext1, l1), [(13, some 13), (4, some 4), (8, some 8)], ⟨rfl, rfl, rfl, rfl, rfl, ⟨wkP_id _ rfl, ⟨rfl, rfl, (by first | rfl | simp [setI])⟩, trivial⟩, ⟨⟨_, rfl, rfl, rfl, wkX_map (enc := I) l1 (fun _ => rfl)⟩, trivial⟩⟩, e27⟩
          · intro w hw14
            subst hw14
            replace h := of_inr h
            obtain ⟨vnext, l⟩ := w
            refine awp_seq ?_
            refine awp_go hmix ?_
            refine go_run' ttok 3 rfl ?_
            refine go_nil nd ?_
            refine then_norm ?_
            refine awp_seq ?_
            refine awp_go hmix ?_
            refine go_run' ttok 4 rfl ?_
            refine go_nil nd ?_
            refine then_norm ?_
            refine awp_freezeM [8] [8] [(13, some ⟨3, 1, l.map I⟩)] [(8, some 8)] [(9, (encL I l))] [] rfl rfl rfl rfl rfl ⟨rfl, by decide, trivial⟩ ⟨(wkP_lend rfl (by first | rfl | simp [setI]) (fun _ => rfl)), trivial⟩ trivial ?_
            refine awp_ret ?_
            have e28 := of_some h
            subst e28
            refine ret_ret ?_
            refine fin0 ttok rfl rfl ?_
            exact wkP_refl _ rfl

noncomputable def r05_Same_s1 (a : (List Int)) (b : (List Int)) (i : Int) : Option (Int ⊕ (Bool ⊕ Unit)) :=
  (bif (decide (i < ((a.length : Nat) : Int))) then (Option.bind (getI a i) (fun e => (Option.bind (getI b i) (fun e1 => (bif (e != e1) then some (Sum.inr (Sum.inl false)) else some (Sum.inl (W64 (i + 1)))))))) else some (Sum.inr (Sum.inr ())))
/-- sawmill/sawmillref05.Same -/
noncomputable def r05_Same_g (a : (List Int)) (b : (List Int)) : Option Bool :=
  (bif (((a.length : Nat) : Int) != ((b.length : Nat) : Int)) then some false else (Option.bind ((loopO (fun q => r05_Same_s1 a b q) 0) : Option (Bool ⊕ Unit)) (Sum.elim (fun q => some q) (fun _ => some true))))
theorem r05_Same_w (a : (List Int)) (b : (List Int)) (r : Bool) (h : r05_Same_g a b = some r) : Holds Try.prog 39 [((encL I) a), ((encL I) b)] [] (B r) [] := by
  unfold r05_Same_g at h
  refine holds_fn Try.func39 rfl Try.ntmps39 rfl rfl rfl ?_
  refine awp_seq ?_
  refine awp_go hmix ?_
  refine go_run' ttok 1 rfl ?_
  refine go_nil nd ?_
  refine then_norm ?_
  refine awp_seq ?_
  refine awp_seq ?_
  refine awp_go hmix ?_
  refine go_run' ttok 1 rfl ?_
  refine go_lenT I a ttok rfl rfl rfl rfl rfl rfl ?_
  refine go_run' ttok 1 rfl ?_
  refine go_lenT I b ttok rfl rfl rfl rfl rfl rfl ?_
  refine go_run' ttok 1 rfl ?_
  refine go_nil nd ?_
  refine then_norm ?_
  refine awp_cond (b := (((a.length : Nat) : Int) != ((b.length : Nat) : Int))) rfl (fun c1 => ?_) (fun c1 => ?_)
  · replace h := of_bif_t h c1
    refine awp_seq ?_
    refine awp_go hmix ?_
    refine go_run' ttok 1 rfl ?_
    refine go_nil nd ?_
    refine then_norm ?_
    refine awp_ret ?_
    refine then_ret ?_
    have e2 := of_some h
    subst e2
    refine ret_ret ?_
    refine fin0 ttok rfl rfl ?_
    exact (wkP_refl _ rfl)
  · replace h := of_bif_f h c1
    refine awp_skip ?_
    refine then_norm ?_
    obtain ⟨y, hx3, h⟩ := of_obind h
    refine awp_seqJ (X := Unit) [] [] (fun _ => []) (fun _ => []) (fun w => Sum.inr w = y) rfl rfl ?_ ?_
    · skip
      refine awp_seq ?_
      refine awp_go hmix ?_
      refine go_run' ttok 1 rfl ?_
      refine go_nil nd ?_
      refine then_norm ?_
      refine awp_block ?_
      refine awp_loopD (X := Int) (Y := (Bool ⊕ Unit)) [0, 1] [] (fun q => [(5, (I q))]) (fun q => []) (fun q => r05_Same_s1 a b q) 0 [] hx3 ⟨rfl, rfl, rfl, rfl, rfl, ⟨wkP_id _ rfl, trivial⟩, trivial⟩ (fun i vR vz hz5 hk6 => ?_)
      change r05_Same_s1 a b i = _ at hz5
      unfold r05_Same_s1 at hz5
      refine awp_seq ?_
      refine awp_seq ?_
      refine awp_go hmix ?_
      refine go_run' ttok 2 rfl ?_
      refine go_lenT I a ttok rfl rfl rfl rfl rfl rfl ?_
      refine go_run' ttok 1 rfl ?_
      refine go_nil nd ?_
      refine then_norm ?_
      refine awp_cond (b := (decide (i < ((a.length : Nat) : Int)))) rfl (fun c7 => ?_) (fun c7 => ?_)
      · replace hz5 := of_bif_t hz5 c7
        refine awp_skip ?_
        refine then_norm ?_
        refine awp_seq ?_
        refine awp_block ?_
        refine awp_seq ?_
        refine awp_go hmix ?_
        refine go_run' ttok 2 rfl ?_
        obtain ⟨e, hv8, hz5⟩ := of_obind hz5
        refine go_indexT I a i e hv8 ttok rfl rfl rfl rfl rfl rfl rfl rfl rfl ?_
        refine go_run' ttok 3 rfl ?_
        obtain ⟨e1, hv9, hz5⟩ := of_obind hz5
        refine go_indexT I b i e1 hv9 ttok rfl rfl rfl rfl rfl rfl rfl rfl rfl ?_
        refine go_run' ttok 2 rfl ?_
        refine go_nil (fun _ => by kernel_rfl) ?_
        refine then_norm ?_
        refine awp_cond (b := (e != e1)) rfl (fun c10 => ?_) (fun c10 => ?_)
        · replace hz5 := of_bif_t hz5 c10
          refine awp_seq ?_
          refine awp_go hmix ?_
          refine go_run' ttok 1 rfl ?_
          refine go_nil nd ?_
          refine then_norm ?_
          refine awp_ret ?_
          refine block_ret ?_
          refine then_ret ?_
          obtain ⟨t, hn11, hq⟩ := of_mapr' hz5
          subst hq
          have hq : t = _ := hk6
          subst hq
          refine then_ret ?_
          refine block_ret ?_
          obtain ⟨t1, hn12, hq⟩ := of_mapl' hn11
          subst hq
          have hq := of_inl h
          replace hq := of_some hq
          subst hq
          refine then_ret ?_
          have e13 := of_some hn12
          subst e13
          refine ret_ret ?_
          refine fin0 ttok rfl rfl ?_
          exact (wkP_refl _ rfl)
        · replace hz5 := of_bif_f hz5 c10
          refine awp_skip ?_
          refine block_norm ?_
          refine then_norm ?_
          refine awp_go hmix ?_
          refine go_run' ttok 3 rfl ?_
          refine go_nil nd ?_
          have e14 := of_some hz5
          subst e14
          refine then_norm ⟨rfl, (W64 (i + 1)), [], ⟨rfl, rfl, rfl, rfl, rfl, ⟨wkP_id _ rfl, trivial⟩, trivial⟩, hk6⟩
      · replace hz5 := of_bif_f hz5 c7
        refine awp_exit ?_
        refine then_exit ?_
        obtain ⟨t2, hn15, hq⟩ := of_mapr' hz5
        subst hq
        have hq : t2 = _ := hk6
        subst hq
        refine then_exit ?_
        refine block_here ?_
        have e16 := of_some hn15
        refine then_norm ⟨rfl, (), [], ⟨rfl, rfl, rfl, rfl, rfl, trivial, trivial⟩, e16⟩
    · intro w hw4
      subst hw4
      replace h := of_inr h
      refine awp_seq ?_
      refine awp_go hmix ?_
      refine go_run' ttok 1 rfl ?_
      refine go_nil nd ?_
      refine then_norm ?_
      refine awp_ret ?_
      have e17 := of_some h
      subst e17
      refine ret_ret ?_
      refine fin0 ttok rfl rfl ?_
      exact (wkP_refl _ rfl)

/-- sawmill/sawmilllaw05.same -/
noncomputable def l05_same_g (a : Tsawmilllaw05_Field) (b : Tsawmilllaw05_Field) : Option Bool :=
  (bif (a.Kind == b.Kind) then (bif (a.N == b.N) then (bif (a.I_ == b.I_) then (bif (bEq a.T b.T) then (Option.bind (r05_Same_g a.L b.L) (fun sv => some sv)) else some false) else some false) else some false) else some false)
theorem l05_same_w (a : Tsawmilllaw05_Field) (b : Tsawmilllaw05_Field) (r : Bool) (h : l05_same_g a b = some r) : Holds Try.prog 32 [(encTsawmilllaw05_Field a), (encTsawmilllaw05_Field b)] [] (B r) [] := by
  unfold l05_same_g at h
  refine holds_fn Try.func32 rfl Try.ntmps32 rfl rfl rfl ?_
  refine awp_seq ?_
  refine awp_go hmix ?_
  refine go_run' ttok 3 rfl ?_
  refine go_nil nd ?_
  refine then_norm ?_
  refine awp_seq ?_
  refine awp_go hmix ?_
  refine go_run' ttok 6 rfl ?_
  refine go_gcase rfl rfl rfl (fun g1 => ?_) (fun g1 => ?_)
  · rw [g1]
    replace h := of_bif_t h g1
    refine go_run' ttok 7 rfl ?_
    refine go_gcase rfl rfl rfl (fun g2 => ?_) (fun g2 => ?_)
    · rw [g2]
      replace h := of_bif_t h g2
      refine go_run' ttok 7 rfl ?_
      refine go_gcase rfl rfl rfl (fun g3 => ?_) (fun g3 => ?_)
      · rw [g3]
        replace h := of_bif_t h g3
        refine go_run' ttok 4 rfl ?_
        refine go_eqlS a.T b.T rfl rfl rfl rfl rfl ?_
        refine go_run' ttok 2 rfl ?_
        refine go_gcase rfl rfl rfl (fun g4 => ?_) (fun g4 => ?_)
        · rw [g4]
          replace h := of_bif_t h g4
          refine go_run' ttok 4 rfl ?_
          obtain ⟨sv, hv5, h⟩ := of_obind h
          refine go_call fn39 (r05_Same_w a.L b.L sv hv5) rfl rfl rfl rfl rfl rfl rfl ?_
          refine go_run' ttok 2 rfl ?_
          refine go_nil nd ?_
          refine then_norm ?_
          refine awp_ret ?_
          have e6 := of_some h
          subst e6
          refine ret_ret ?_
          refine fin0 ttok rfl rfl ?_
          exact (wkP_refl _ rfl)
        · rw [g4]
          replace h := of_bif_f h g4
          refine go_run' ttok 7 rfl ?_
          refine go_nil nd ?_
          refine then_norm ?_
          refine awp_ret ?_
          have e7 := of_some h
          subst e7
          refine ret_ret ?_
          refine fin0 ttok rfl rfl ?_
          exact (wkP_refl _ rfl)
      · rw [g3]
        replace h := of_bif_f h g3
        refine go_run' ttok 14 rfl ?_
        refine go_nil nd ?_
        refine then_norm ?_
        refine awp_ret ?_
        have e8 := of_some h
        subst e8
        refine ret_ret ?_
        refine fin0 ttok rfl rfl ?_
        exact (wkP_refl _ rfl)
    · rw [g2]
      replace h := of_bif_f h g2
      refine go_run' ttok 21 rfl ?_
      refine go_nil nd ?_
      refine then_norm ?_
      refine awp_ret ?_
      have e9 := of_some h
      subst e9
      refine ret_ret ?_
      refine fin0 ttok rfl rfl ?_
      exact (wkP_refl _ rfl)
  · rw [g1]
    replace h := of_bif_f h g1
    refine go_run' ttok 28 rfl ?_
    refine go_nil nd ?_
    refine then_norm ?_
    refine awp_ret ?_
    have e10 := of_some h
    subst e10
    refine ret_ret ?_
    refine fin0 ttok rfl rfl ?_
    exact (wkP_refl _ rfl)

/-- sawmill/sawmillref05.Left -/
noncomputable def r05_Left_g (vr : Tsawmillref05_Reader) : Int :=
  (W64 (((vr.S_.size : Nat) : Int) - vr.At))
theorem r05_Left_w (vr : Tsawmillref05_Reader) (r : Int) (h : r05_Left_g vr = r) : Holds Try.prog 33 [(encTsawmillref05_Reader vr)] [] (I r) [] := by
  unfold r05_Left_g at h
  refine holds_fn Try.func33 rfl Try.ntmps33 rfl rfl rfl ?_
  refine awp_seq ?_
  refine awp_go hmix ?_
  refine go_run' ttok 2 rfl ?_
  refine go_nil nd ?_
  refine then_norm ?_
  refine awp_seq ?_
  refine awp_go hmix ?_
  refine go_run' ttok 7 rfl ?_
  refine go_nil nd ?_
  refine then_norm ?_
  refine awp_ret ?_
  have e1 := h
  subst e1
  refine ret_ret ?_
  refine fin0 ttok rfl rfl ?_
  exact (wkP_refl _ rfl)

/-- sawmill/sawmillref05.End -/
noncomputable def r05_End_g (vr : Tsawmillref05_Reader) : Int :=
  (bif (vr.E == 0) then (bif (decide (0 < (r05_Left_g vr))) then 4 else vr.E) else vr.E)
theorem r05_End_w (vr : Tsawmillref05_Reader) (r : Int) (h : r05_End_g vr = r) : Holds Try.prog 35 [(encTsawmillref05_Reader vr)] [] (I r) [] := by
  unfold r05_End_g at h
  refine holds_fn Try.func35 rfl Try.ntmps35 rfl rfl rfl ?_
  refine awp_seq ?_
  refine awp_go hmix ?_
  refine go_run' ttok 2 rfl ?_
  refine go_nil nd ?_
  refine then_norm ?_
  refine awp_seq ?_
  refine awp_seq ?_
  refine awp_go hmix ?_
  refine go_run' ttok 4 rfl ?_
  refine go_gcase rfl rfl rfl (fun g1 => ?_) (fun g1 => ?_)
  · rw [g1]
    replace h := of_bif_t h g1
    refine go_run' ttok 1 rfl ?_
    refine go_call fn33 (r05_Left_w vr _ rfl) rfl rfl rfl rfl rfl rfl rfl ?_
    refine go_run' ttok 2 rfl ?_
    refine go_nil nd ?_
    refine then_norm ?_
    refine awp_cond (b := (decide (0 < (r05_Left_g vr)))) rfl (fun c2 => ?_) (fun c2 => ?_)
    · replace h := of_bif_t h c2
      refine awp_seq ?_
      refine awp_go hmix ?_
      refine go_run' ttok 1 rfl ?_
      refine go_nil nd ?_
      refine then_norm ?_
      refine awp_ret ?_
      refine then_ret ?_
      have e3 := h
      subst e3
      refine ret_ret ?_
      refine fin0 ttok rfl rfl ?_
      exact (wkP_refl _ rfl)
    · replace h := of_bif_f h c2
      refine awp_skip ?_
      refine then_norm ?_
      refine awp_seq ?_
      refine awp_go hmix ?_
      refine go_run' ttok 3 rfl ?_
      refine go_nil nd ?_
      refine then_norm ?_
      refine awp_ret ?_
      have e4 := h
      subst e4
      refine ret_ret ?_
      refine fin0 ttok rfl rfl ?_
      exact (wkP_refl _ rfl)
  · rw [g1]
    replace h := of_bif_f h g1
    refine go_run' ttok 4 rfl ?_
    refine go_nil nd ?_
    refine then_norm ?_
    refine awp_cond rfl (fun h => by cases h) (fun tt0 => ?_)
    clear tt0
    refine awp_skip ?_
    refine then_norm ?_
    refine awp_seq ?_
    refine awp_go hmix ?_
    refine go_run' ttok 3 rfl ?_
    refine go_nil nd ?_
    refine then_norm ?_
    refine awp_ret ?_
    have e5 := h
    subst e5
    refine ret_ret ?_
    refine fin0 ttok rfl rfl ?_
    exact (wkP_refl _ rfl)

noncomputable def l05_WireReads_s1 (l : (List Tsawmilllaw05_Op)) (i : Int) (vv : Twire_Reader) (vq1 : Tsawmillref05_Reader) : Option ((Int × Twire_Reader × Tsawmillref05_Reader) ⊕ (Bool ⊕ (Twire_Reader × Tsawmillref05_Reader))) :=
  (bif (decide (i < ((l.length : Nat) : Int))) then (Option.bind (getI l i) (fun e => (Option.bind (l05_read_g vv e) (fun rv => (Option.bind ((bif (e.Kind == 0) then (Option.bind (r05_ReadUint_g vq1) (fun rv1 => some (rv1.1, (⟨e.Kind, rv1.2, 0, (⟨#[]⟩ : ByteArray), []⟩ : Tsawmilllaw05_Field)))) else (bif (e.Kind == 1) then (Option.bind (r05_ReadInt_g vq1 e.Low e.High) (fun rv2 => some (rv2.1, (⟨e.Kind, 0, rv2.2, (⟨#[]⟩ : ByteArray), []⟩ : Tsawmilllaw05_Field)))) else (bif (e.Kind == 2) then (Option.bind (r05_ReadText_g vq1 e.Most) (fun rv3 => some (rv3.1, (⟨e.Kind, 0, 0, rv3.2, []⟩ : Tsawmilllaw05_Field)))) else (Option.bind (r05_ReadInts_g vq1 e.Most e.Low e.High) (fun rv4 => some (rv4.1, (⟨e.Kind, 0, 0, (⟨#[]⟩ : ByteArray), rv4.2⟩ : Tsawmilllaw05_Field))))))) : Option (Tsawmillref05_Reader × Tsawmilllaw05_Field)) (fun w3 => (Option.bind (l05_same_g rv.1 w3.2) (fun sv => (bif (!sv) then some (Sum.inr (Sum.inl false)) else (bif ((wire_Reader__Left_g rv.2) != (r05_Left_g w3.1)) then some (Sum.inr (Sum.inl false)) else (bif ((wire_Reader__Err_g rv.2) != w3.1.E) then some (Sum.inr (Sum.inl false)) else (bif ((wire_Reader__End_g rv.2) != (r05_End_g w3.1)) then some (Sum.inr (Sum.inl false)) else some (Sum.inl ((W64 (i + 1)), rv.2, w3.1)))))))))))))) else some (Sum.inr (Sum.inr (vv, vq1))))
/-- sawmill/sawmilllaw05.WireReads -/
noncomputable def l05_WireReads_g (s : ByteArray) (l : (List Tsawmilllaw05_Op)) : Option Bool :=
  (bif (decide (3000 < ((s.size : Nat) : Int))) then (Option.bind l05_awake_g (fun av => some av)) else (bif (decide (60 < ((l.length : Nat) : Int))) then (Option.bind l05_awake_g (fun av1 => some av1)) else (letB (wire_NewReader_g s) (fun nv => (letB (r05_NewReader_g s) (fun nv1 => (Option.bind ((loopO (fun q => l05_WireReads_s1 l q.1 q.2.1 q.2.2) (0, nv, nv1)) : Option (Bool ⊕ (Twire_Reader × Tsawmillref05_Reader))) (Sum.elim (fun q => some q) (fun w4 => (bif ((wire_Reader__Left_g w4.1) == (r05_Left_g w4.2)) then (bif ((wire_Reader__End_g w4.1) == (r05_End_g w4.2)) then (Option.bind l05_awake_g (fun av2 => some av2)) else some false) else some false))))))))))
theorem l05_WireReads_w (s : ByteArray) (l : (List Tsawmilllaw05_Op)) (r : Bool) (h : l05_WireReads_g s l = some r) : Holds Try.prog 6 [(S s), ((encL encTsawmilllaw05_Op) l)] [] (B r) [] := by
  unfold l05_WireReads_g at h
  refine holds_fn Try.func6 rfl Try.ntmps6 rfl rfl rfl ?_
  refine awp_seq ?_
  refine awp_go hmix ?_
  refine go_run' ttok 1 rfl ?_
  refine go_nil nd ?_
  refine then_norm ?_
  refine awp_seq ?_
  refine awp_seq ?_
  refine awp_go hmix ?_
  refine go_run' ttok 4 rfl ?_
  refine go_gcase rfl rfl rfl (fun g1 => ?_) (fun g1 => ?_)
  · rw [g1]
    replace h := of_bif_t h g1
    refine go_run' ttok 4 rfl ?_
    refine go_nil nd ?_
    refine then_norm ?_
    refine awp_cond rfl (fun tt0 => ?_) (fun h => by cases h)
    clear tt0
    refine awp_seq ?_
    refine awp_go hmix ?_
    obtain ⟨av, hv2, h⟩ := of_obind h
    refine go_call fn16 (l05_awake_w av hv2) rfl rfl rfl rfl rfl rfl rfl ?_
    refine go_run' ttok 1 rfl ?_
    refine go_nil nd ?_
    refine then_norm ?_
    refine awp_ret ?_
    refine then_ret ?_
    have e3 := of_some h
    subst e3
    refine ret_ret ?_
    refine fin0 ttok rfl rfl ?_
    exact (wkP_refl _ rfl)
  · rw [g1]
    replace h := of_bif_f h g1
    refine go_run' ttok 1 rfl ?_
    refine go_lenT encTsawmilllaw05_Op l ttok rfl rfl rfl rfl rfl rfl ?_
    refine go_run' ttok 2 rfl ?_
    refine go_nil nd ?_
    refine then_norm ?_
    refine awp_cond (b := (decide (60 < ((l.length : Nat) : Int)))) rfl (fun c4 => ?_) (fun c4 => ?_)
    · replace h := of_bif_t h c4
      refine awp_seq ?_
      refine awp_go hmix ?_
      obtain ⟨av1, hv5, h⟩ := of_obind h
      refine go_call fn16 (l05_awake_w av1 hv5) rfl rfl rfl rfl rfl rfl rfl ?_
      refine go_run' ttok 1 rfl ?_
      refine go_nil nd ?_
      refine then_norm ?_
      refine awp_ret ?_
      refine then_ret ?_
      have e6 := of_some h
      subst e6
      refine ret_ret ?_
      refine fin0 ttok rfl rfl ?_
      exact (wkP_refl _ rfl)
    · replace h := of_bif_f h c4
      refine awp_skip ?_
      refine then_norm ?_
      refine awp_seq ?_
      refine awp_go hmix ?_
      refine go_run' ttok 1 rfl ?_
      obtain ⟨nv, hv7, h⟩ := of_let h
      refine go_callM (.ref 21 0 0) [] [(21, some ⟨81, 3, [(.agg [(S nv.s), (I nv.at_), (I nv.e)])]⟩)] [] [(21, some 999)] fn21 (wire_NewReader_w s nv hv7) rfl rfl rfl rfl rfl trivial ⟨(wkP_refl _ rfl), trivial⟩ rfl rfl trivial rfl rfl ⟨⟨_, rfl, rfl, rfl, .inl ⟨rfl, nr_one rfl⟩⟩, trivial⟩ ⟨rfl, rfl, rfl⟩ rfl (fun h => absurd rfl h) rfl rfl rfl ?_
      refine go_run' ttok 1 rfl ?_
      refine go_nil nd ?_
      refine then_norm ?_
      refine awp_seq ?_
      refine awp_go hmix ?_
      refine go_run' ttok 1 rfl ?_
      obtain ⟨nv1, hv8, h⟩ := of_let h
      refine go_call fn26 (r05_NewReader_w s nv1 hv8) rfl rfl rfl rfl rfl rfl rfl ?_
      refine go_run' ttok 2 rfl ?_
      refine go_nil nd ?_
      refine then_norm ?_
      obtain ⟨y, hx9, h⟩ := of_obind h
      refine awp_seqJ (X := (Twire_Reader × Tsawmillref05_Reader)) [5, 6] [] (fun w1 => []) (fun w1 => [(21, some ⟨81, 3, [(.agg [(S w1.1.s), (I w1.1.at_), (I w1.1.e)])]⟩), (6, some ⟨42, 3, [(.agg [(S w1.2.S_), (I w1.2.At), (I w1.2.E)])]⟩)]) (fun w1 => Sum.inr w1 = y) rfl rfl ?_ ?_
      · skip
        refine awp_seq ?_
        refine awp_go hmix ?_
        refine go_run' ttok 1 rfl ?_
        refine go_nil nd ?_
        refine then_norm ?_
        refine awp_block ?_
        refine awp_loopD (X := (Int × Twire_Reader × Tsawmillref05_Reader)) (Y := (Bool ⊕ (Twire_Reader × Tsawmillref05_Reader))) [1, 5, 6] [] (fun q => [(7, (I q.1))]) (fun q => [(21, some ⟨81, 3, [(.agg [(S q.2.1.s), (I q.2.1.at_), (I q.2.1.e)])]⟩), (6, some ⟨42, 3, [(.agg [(S q.2.2.S_), (I q.2.2.At), (I q.2.2.E)])]⟩)]) (fun q => l05_WireReads_s1 l q.1 q.2.1 q.2.2) (0, nv, nv1) [(21, some 21), (6, some 6)] hx9 ⟨rfl, rfl, rfl, rfl, rfl, ⟨wkP_id _ rfl, trivial⟩, ⟨⟨_, rfl, rfl, rfl, .inl ⟨rfl, nr_one rfl⟩⟩, ⟨_, rfl, rfl, rfl, .inl ⟨rfl, nr_one rfl⟩⟩, trivial⟩⟩ (fun x vR vz hz11 hk12 => ?_)
        obtain ⟨i, vv, vq1⟩ := x
        change l05_WireReads_s1 l i vv vq1 = _ at hz11
        unfold l05_WireReads_s1 at hz11
        refine awp_seq ?_
        refine awp_seq ?_
        refine awp_go hmix ?_
        refine go_run' ttok 2 rfl ?_
        refine go_lenT encTsawmilllaw05_Op l ttok rfl rfl rfl rfl rfl rfl ?_
        refine go_run' ttok 1 rfl ?_
        refine go_nil nd ?_
        refine then_norm ?_
        refine awp_cond (b := (decide (i < ((l.length : Nat) : Int)))) rfl (fun c13 => ?_) (fun c13 => ?_)
        · replace hz11 := of_bif_t hz11 c13
          refine awp_skip ?_
          refine then_norm ?_
          refine awp_seq ?_
          refine awp_block ?_
          refine awp_seq ?_
          refine awp_go hmix ?_
          refine go_run' ttok 2 rfl ?_
          obtain ⟨e, hv14, hz11⟩ := of_obind hz11
          refine go_indexT encTsawmilllaw05_Op l i e hv14 ttok rfl rfl rfl rfl rfl rfl rfl rfl rfl ?_
          refine go_run' ttok 3 rfl ?_
          refine go_nil nd ?_
          refine then_norm ?_
          refine awp_seq ?_
          refine awp_go hmix ?_
          refine go_run' ttok 2 rfl ?_
          obtain ⟨rv, hv15, hz11⟩ := of_obind hz11
          refine go_callM (.agg [(U8 rv.1.Kind), (U64 rv.1.N), (I rv.1.I_), (S rv.1.T), (encL I rv.1.L)]) [] [(21, some ⟨81, 3, [(.agg [(S rv.2.s), (I rv.2.at_), (I rv.2.e)])]⟩)] [(1000, some 21)] [(21, some 1000)] fn27 (l05_read_w vv e rv hv15) rfl rfl rfl rfl rfl trivial ⟨⟨rfl, rfl, rfl⟩, (wkP_refl _ rfl), trivial⟩ rfl rfl ⟨⟨_, rfl, rfl, rfl, .inl ⟨rfl, nr_one rfl⟩⟩, trivial⟩ rfl rfl ⟨⟨_, rfl, rfl, rfl, .inl ⟨rfl, nr_one rfl⟩⟩, trivial⟩ (wkP_refl _ rfl) rfl (fun h => absurd rfl h) rfl rfl rfl ?_
          refine go_run' ttok 2 rfl ?_
          refine go_nil nd ?_
          refine then_norm ?_
          refine awp_seq ?_
          refine awp_go hmix ?_
          refine go_run' ttok 5 rfl ?_
          refine go_nil nd ?_
          refine then_norm ?_
          obtain ⟨y1, hx16, hz11⟩ := of_obind hz11
          refine awp_seqJ (X := (Tsawmillref05_Reader × Tsawmilllaw05_Field)) [1, 5, 6, 7, 9, 10] [21, 9] (fun w2 => []) (fun w2 => [(6, some ⟨42, 3, [(.agg [(S w2.1.S_), (I w2.1.At), (I w2.1.E)])]⟩), (10, some ⟨45, 5, [(.agg [(U8 w2.2.Kind), (U64 w2.2.N), (I w2.2.I_), (S w2.2.T), (encL I w2.2.L)])]⟩)]) (fun w2 => w2 = y1) rfl rfl ?_ ?_
          · skip
            refine awp_seq ?_
            refine awp_go hmix ?_
            refine go_run' ttok 2 rfl ?_
            refine go_nil nd ?_
            refine then_norm ?_
            refine awp_block ?_
            refine awp_seq ?_
            refine awp_go hmix ?_
            refine go_run' ttok 2 rfl ?_
            refine go_nil nd ?_
            refine then_norm ?_
            refine awp_cond (b := (e.Kind == 0)) rfl (fun c18 => ?_) (fun c18 => ?_)
            · replace hx16 := of_bif_t hx16 c18
              refine awp_go hmix ?_
              refine go_run' ttok 1 rfl ?_
              obtain ⟨rv1, hv19, hx16⟩ := of_obind hx16
              refine go_call fn28 (r05_ReadUint_w vq1 rv1 hv19) rfl rfl rfl rfl rfl rfl rfl ?_
              refine go_run' ttok 6 rfl ?_
              refine go_nil nd ?_
              refine block_norm ?_
              have e20 := of_some hx16
              refine then_norm ⟨rfl, (rv1.1, (⟨e.Kind, rv1.2, 0, (⟨#[]⟩ : ByteArray), []⟩ : Tsawmilllaw05_Field)), [(6, some 6), (10, some 10), (21, some 21), (9, some 9)], ⟨rfl, rfl, rfl, rfl, rfl, trivial, ⟨⟨_, rfl, rfl, rfl, .inl ⟨rfl, nr_one rfl⟩⟩, ⟨_, rfl, rfl, rfl, .inr ⟨⟨⟨wkP_id _ rfl, wkP_id _ rfl, wkP_id _ rfl, wkP_id _ rfl, wkP_nilm, trivial⟩, trivial⟩, ⟨rfl, trivial⟩⟩⟩, trivial⟩⟩, e20⟩
            · replace hx16 := of_bif_f hx16 c18
              refine awp_seq ?_
              refine awp_go hmix ?_
              refine go_run' ttok 2 rfl ?_
              refine go_nil nd ?_
              refine then_norm ?_
              refine awp_cond (b := (e.Kind == 1)) rfl (fun c21 => ?_) (fun c21 => ?_)
              · replace hx16 := of_bif_t hx16 c21
                refine awp_go hmix ?_
                refine go_run' ttok 5 rfl ?_
                obtain ⟨rv2, hv22, hx16⟩ := of_obind hx16
                refine go_call fn29 (r05_ReadInt_w vq1 e.Low e.High rv2 hv22) rfl rfl rfl rfl rfl rfl rfl ?_
                refine go_run' ttok 6 rfl ?_
                refine go_nil nd ?_
                refine block_norm ?_
                have e23 := of_some hx16
                refine then_norm ⟨rfl, (rv2.1, (⟨e.Kind, 0, rv2.2, (⟨#[]⟩ : ByteArray), []⟩ : Tsawmilllaw05_Field)), [(6, some 6), (10, some 10), (21, some 21), (9, some 9)], ⟨rfl, rfl, rfl, rfl, rfl, trivial, ⟨⟨_, rfl, rfl, rfl, .inl ⟨rfl, nr_one rfl⟩⟩, ⟨_, rfl, rfl, rfl, .inr ⟨⟨⟨wkP_id _ rfl, wkP_id _ rfl, wkP_id _ rfl, wkP_id _ rfl, wkP_nilm, trivial⟩, trivial⟩, ⟨rfl, trivial⟩⟩⟩, trivial⟩⟩, e23⟩
              · replace hx16 := of_bif_f hx16 c21
                refine awp_seq ?_
                refine awp_go hmix ?_
                refine go_run' ttok 2 rfl ?_
                refine go_nil nd ?_
                refine then_norm ?_
                refine awp_cond (b := (e.Kind == 2)) rfl (fun c24 => ?_) (fun c24 => ?_)
                · replace hx16 := of_bif_t hx16 c24
                  refine awp_go hmix ?_
                  refine go_run' ttok 3 rfl ?_
                  obtain ⟨rv3, hv25, hx16⟩ := of_obind hx16
                  refine go_call fn30 (r05_ReadText_w vq1 e.Most rv3 hv25) rfl rfl rfl rfl rfl rfl rfl ?_
                  refine go_run' ttok 6 rfl ?_
                  refine go_nil nd ?_
                  refine block_norm ?_
                  have e26 := of_some hx16
                  refine then_norm ⟨rfl, (rv3.1, (⟨e.Kind, 0, 0, rv3.2, []⟩ : Tsawmilllaw05_Field)), [(6, some 6), (10, some 10), (21, some 21), (9, some 9)], ⟨rfl, rfl, rfl, rfl, rfl, trivial, ⟨⟨_, rfl, rfl, rfl, .inl ⟨rfl, nr_one rfl⟩⟩, ⟨_, rfl, rfl, rfl, .inr ⟨⟨⟨wkP_id _ rfl, wkP_id _ rfl, wkP_id _ rfl, wkP_id _ rfl, wkP_nilm, trivial⟩, trivial⟩, ⟨rfl, trivial⟩⟩⟩, trivial⟩⟩, e26⟩
                · replace hx16 := of_bif_f hx16 c24
                  refine awp_go hmix ?_
                  refine go_run' ttok 7 rfl ?_
                  obtain ⟨rv4, hv27, hx16⟩ := of_obind hx16
                  refine go_call fn31 (r05_ReadInts_w vq1 e.Most e.Low e.High rv4 hv27) rfl rfl rfl rfl rfl rfl rfl ?_
                  refine go_run' ttok 6 rfl ?_
                  refine go_nil nd ?_
                  refine block_norm ?_
                  have e28 := of_some hx16
                  refine then_norm ⟨rfl, (rv4.1, (⟨e.Kind, 0, 0, (⟨#[]⟩ : ByteArray), rv4.2⟩ : Tsawmilllaw05_Field)), [(6, some 6), (10, some 10), (21, some 21), (9, some 9)], ⟨rfl, rfl, rfl, rfl, rfl, trivial, ⟨⟨_, rfl, rfl, rfl, .inl ⟨rfl, nr_one rfl⟩⟩, ⟨_, rfl, rfl, rfl, .inl ⟨rfl, nr_one rfl⟩⟩, trivial⟩⟩, e28⟩
          · intro w2 hw17
            subst hw17
            obtain ⟨vq2, b⟩ := w2
            refine awp_seq ?_
            refine awp_go hmix ?_
            refine go_run' ttok 2 rfl ?_
            obtain ⟨sv, hv29, hz11⟩ := of_obind hz11
            refine go_call fn32 (l05_same_w rv.1 b sv hv29) rfl rfl rfl rfl rfl rfl rfl ?_
            refine go_run' ttok 2 rfl ?_
            refine go_gcase rfl rfl rfl (fun g30 => ?_) (fun g30 => ?_)
            · rw [g30]
              replace hz11 := of_bif_t hz11 g30
              refine go_run' ttok 20 rfl ?_
              refine go_nil (fun _ => by kernel_rfl) ?_
              refine then_norm ?_
              refine awp_cond rfl (fun tt0 => ?_) (fun h => by cases h)
              clear tt0
              refine awp_seq ?_
              refine awp_go hmix ?_
              refine go_run' ttok 1 rfl ?_
              refine go_nil nd ?_
              refine then_norm ?_
              refine awp_ret ?_
              refine block_ret ?_
              refine then_ret ?_
              obtain ⟨t, hn31, hq⟩ := of_mapr' hz11
              subst hq
              have hq : t = _ := hk12
              subst hq
              refine then_ret ?_
              refine block_ret ?_
              obtain ⟨t1, hn32, hq⟩ := of_mapl' hn31
              subst hq
              have hq := of_inl h
              replace hq := of_some hq
              subst hq
              refine then_ret ?_
              have e33 := of_some hn32
              subst e33
              refine ret_ret ?_
              refine fin0 ttok rfl rfl ?_
              exact (wkP_refl _ rfl)
            · rw [g30]
              replace hz11 := of_bif_f hz11 g30
              refine go_run' ttok 1 rfl ?_
              refine go_callM (I (wire_Reader__Left_g rv.2)) [] [(21, some ⟨81, 3, [(.agg [(S rv.2.s), (I rv.2.at_), (I rv.2.e)])]⟩)] [(1000, some 21)] [(21, some 1000)] fn24 (wire_Reader__Left_w rv.2 _ rfl) rfl rfl rfl rfl rfl trivial ⟨⟨rfl, rfl, rfl⟩, trivial⟩ rfl rfl ⟨⟨_, rfl, rfl, rfl, .inl ⟨rfl, nr_one rfl⟩⟩, trivial⟩ rfl rfl ⟨⟨_, rfl, rfl, rfl, .inl ⟨rfl, nr_one rfl⟩⟩, trivial⟩ (wkP_refl _ rfl) rfl (fun h => absurd rfl h) rfl rfl rfl ?_
              refine go_run' ttok 1 rfl ?_
              refine go_call fn33 (r05_Left_w vq2 _ rfl) rfl rfl rfl rfl rfl rfl rfl ?_
              refine go_run' ttok 3 rfl ?_
              refine go_gcase rfl rfl rfl (fun g34 => ?_) (fun g34 => ?_)
              · rw [g34]
                replace hz11 := of_bif_t hz11 g34
                refine go_run' ttok 13 rfl ?_
                refine go_nil (fun _ => by kernel_rfl) ?_
                refine then_norm ?_
                refine awp_cond rfl (fun tt0 => ?_) (fun h => by cases h)
                clear tt0
                refine awp_seq ?_
                refine awp_go hmix ?_
                refine go_run' ttok 1 rfl ?_
                refine go_nil nd ?_
                refine then_norm ?_
                refine awp_ret ?_
                refine block_ret ?_
                refine then_ret ?_
                obtain ⟨t2, hn35, hq⟩ := of_mapr' hz11
                subst hq
                have hq : t2 = _ := hk12
                subst hq
                refine then_ret ?_
                refine block_ret ?_
                obtain ⟨t3, hn36, hq⟩ := of_mapl' hn35
                subst hq
                have hq := of_inl h
                replace hq := of_some hq
                subst hq
                refine then_ret ?_
                have e37 := of_some hn36
                subst e37
                refine ret_ret ?_
                refine fin0 ttok rfl rfl ?_
                exact (wkP_refl _ rfl)
              · rw [g34]
                replace hz11 := of_bif_f hz11 g34
                refine go_run' ttok 1 rfl ?_
                refine go_callM (I (wire_Reader__Err_g rv.2)) [] [(21, some ⟨81, 3, [(.agg [(S rv.2.s), (I rv.2.at_), (I rv.2.e)])]⟩)] [(1000, some 21)] [(21, some 1000)] fn34 (wire_Reader__Err_w rv.2 _ rfl) rfl rfl rfl rfl rfl trivial ⟨⟨rfl, rfl, rfl⟩, trivial⟩ rfl rfl ⟨⟨_, rfl, rfl, rfl, .inl ⟨rfl, nr_one rfl⟩⟩, trivial⟩ rfl rfl ⟨⟨_, rfl, rfl, rfl, .inl ⟨rfl, nr_one rfl⟩⟩, trivial⟩ (wkP_refl _ rfl) rfl (fun h => absurd rfl h) rfl rfl rfl ?_
                refine go_run' ttok 5 rfl ?_
                refine go_gcase rfl rfl rfl (fun g38 => ?_) (fun g38 => ?_)
                · rw [g38]
                  replace hz11 := of_bif_t hz11 g38
                  refine go_run' ttok 6 rfl ?_
                  refine go_nil (fun _ => by kernel_rfl) ?_
                  refine then_norm ?_
                  refine awp_cond rfl (fun tt0 => ?_) (fun h => by cases h)
                  clear tt0
                  refine awp_seq ?_
                  refine awp_go hmix ?_
                  refine go_run' ttok 1 rfl ?_
                  refine go_nil nd ?_
                  refine then_norm ?_
                  refine awp_ret ?_
                  refine block_ret ?_
                  refine then_ret ?_
                  obtain ⟨t4, hn39, hq⟩ := of_mapr' hz11
                  subst hq
                  have hq : t4 = _ := hk12
                  subst hq
                  refine then_ret ?_
                  refine block_ret ?_
                  obtain ⟨t5, hn40, hq⟩ := of_mapl' hn39
                  subst hq
                  have hq := of_inl h
                  replace hq := of_some hq
                  subst hq
                  refine then_ret ?_
                  have e41 := of_some hn40
                  subst e41
                  refine ret_ret ?_
                  refine fin0 ttok rfl rfl ?_
                  exact (wkP_refl _ rfl)
                · rw [g38]
                  replace hz11 := of_bif_f hz11 g38
                  refine go_run' ttok 1 rfl ?_
                  refine go_callM (I (wire_Reader__End_g rv.2)) [] [(21, some ⟨81, 3, [(.agg [(S rv.2.s), (I rv.2.at_), (I rv.2.e)])]⟩)] [(1000, some 21)] [(21, some 1000)] fn23 (wire_Reader__End_w rv.2 _ rfl) rfl rfl rfl rfl rfl trivial ⟨⟨rfl, rfl, rfl⟩, trivial⟩ rfl rfl ⟨⟨_, rfl, rfl, rfl, .inl ⟨rfl, nr_one rfl⟩⟩, trivial⟩ rfl rfl ⟨⟨_, rfl, rfl, rfl, .inl ⟨rfl, nr_one rfl⟩⟩, trivial⟩ (wkP_refl _ rfl) rfl (fun h => absurd rfl h) rfl rfl rfl ?_
                  refine go_run' ttok 1 rfl ?_
                  refine go_call fn35 (r05_End_w vq2 _ rfl) rfl rfl rfl rfl rfl rfl rfl ?_
                  refine go_run' ttok 2 rfl ?_
                  refine go_nil (fun _ => by kernel_rfl) ?_
                  refine then_norm ?_
                  refine awp_cond (b := ((wire_Reader__End_g rv.2) != (r05_End_g vq2))) rfl (fun c42 => ?_) (fun c42 => ?_)
                  · replace hz11 := of_bif_t hz11 c42
                    refine awp_seq ?_
                    refine awp_go hmix ?_
                    refine go_run' ttok 1 rfl ?_
                    refine go_nil nd ?_
                    refine then_norm ?_
                    refine awp_ret ?_
                    refine block_ret ?_
                    refine then_ret ?_
                    obtain ⟨t6, hn43, hq⟩ := of_mapr' hz11
                    subst hq
                    have hq : t6 = _ := hk12
                    subst hq
                    refine then_ret ?_
                    refine block_ret ?_
                    obtain ⟨t7, hn44, hq⟩ := of_mapl' hn43
                    subst hq
                    have hq := of_inl h
                    replace hq := of_some hq
                    subst hq
                    refine then_ret ?_
                    have e45 := of_some hn44
                    subst e45
                    refine ret_ret ?_
                    refine fin0 ttok rfl rfl ?_
                    exact (wkP_refl _ rfl)
                  · replace hz11 := of_bif_f hz11 c42
                    refine awp_skip ?_
                    refine block_norm ?_
                    refine then_norm ?_
                    refine awp_go hmix ?_
                    refine go_run' ttok 3 rfl ?_
                    refine go_nil nd ?_
                    have e46 := of_some hz11
                    subst e46
                    refine then_norm ⟨rfl, ((W64 (i + 1)), rv.2, vq2), [(21, some 21), (6, some 6)], ⟨rfl, rfl, rfl, rfl, rfl, ⟨wkP_id _ rfl, trivial⟩, ⟨⟨_, rfl, rfl, rfl, .inl ⟨rfl, nr_one rfl⟩⟩, ⟨_, rfl, rfl, rfl, .inl ⟨rfl, nr_one rfl⟩⟩, trivial⟩⟩, hk12⟩
        · replace hz11 := of_bif_f hz11 c13
          refine awp_exit ?_
          refine then_exit ?_
          obtain ⟨t8, hn47, hq⟩ := of_mapr' hz11
          subst hq
          have hq : t8 = _ := hk12
          subst hq
          refine then_exit ?_
          refine block_here ?_
          have e48 := of_some hn47
          refine then_norm ⟨rfl, (vv, vq1), [(21, some 21), (6, some 6)], ⟨rfl, rfl, rfl, rfl, rfl, trivial, ⟨⟨_, rfl, rfl, rfl, .inl ⟨rfl, nr_one rfl⟩⟩, ⟨_, rfl, rfl, rfl, .inl ⟨rfl, nr_one rfl⟩⟩, trivial⟩⟩, e48⟩
      · intro w1 hw10
        subst hw10
        replace h := of_inr h
        obtain ⟨w, vq⟩ := w1
        refine awp_seq ?_
        refine awp_go hmix ?_
        refine go_run' ttok 1 rfl ?_
        refine go_callM (I (wire_Reader__Left_g w)) [] [(21, some ⟨81, 3, [(.agg [(S w.s), (I w.at_), (I w.e)])]⟩)] [(1000, some 21)] [(21, some 1000)] fn24 (wire_Reader__Left_w w _ rfl) rfl rfl rfl rfl rfl trivial ⟨⟨rfl, rfl, rfl⟩, trivial⟩ rfl rfl ⟨⟨_, rfl, rfl, rfl, .inl ⟨rfl, nr_one rfl⟩⟩, trivial⟩ rfl rfl ⟨⟨_, rfl, rfl, rfl, .inl ⟨rfl, nr_one rfl⟩⟩, trivial⟩ (wkP_refl _ rfl) rfl (fun h => absurd rfl h) rfl rfl rfl ?_
        refine go_run' ttok 1 rfl ?_
        refine go_call fn33 (r05_Left_w vq _ rfl) rfl rfl rfl rfl rfl rfl rfl ?_
        refine go_run' ttok 2 rfl ?_
        refine go_gcase rfl rfl rfl (fun g49 => ?_) (fun g49 => ?_)
        · rw [g49]
          replace h := of_bif_t h g49
          refine go_run' ttok 1 rfl ?_
          refine go_callM (I (wire_Reader__End_g w)) [] [(21, some ⟨81, 3, [(.agg [(S w.s), (I w.at_), (I w.e)])]⟩)] [(1000, some 21)] [(21, some 1000)] fn23 (wire_Reader__End_w w _ rfl) rfl rfl rfl rfl rfl trivial ⟨⟨rfl, rfl, rfl⟩, trivial⟩ rfl rfl ⟨⟨_, rfl, rfl, rfl, .inl ⟨rfl, nr_one rfl⟩⟩, trivial⟩ rfl rfl ⟨⟨_, rfl, rfl, rfl, .inl ⟨rfl, nr_one rfl⟩⟩, trivial⟩ (wkP_refl _ rfl) rfl (fun h => absurd rfl h) rfl rfl rfl ?_
          refine go_run' ttok 1 rfl ?_
          refine go_call fn35 (r05_End_w vq _ rfl) rfl rfl rfl rfl rfl rfl rfl ?_
          refine go_run' ttok 3 rfl ?_
          refine go_gcase rfl rfl rfl (fun g50 => ?_) (fun g50 => ?_)
          · rw [g50]
            replace h := of_bif_t h g50
            obtain ⟨av2, hv51, h⟩ := of_obind h
            refine go_call fn16 (l05_awake_w av2 hv51) rfl rfl rfl rfl rfl rfl rfl ?_
            refine go_run' ttok 2 rfl ?_
            refine go_nil (fun _ => by kernel_rfl) ?_
            refine then_norm ?_
            refine awp_ret ?_
            have e52 := of_some h
            subst e52
            refine ret_ret ?_
            refine fin0 ttok rfl rfl ?_
            exact (wkP_refl _ rfl)
          · rw [g50]
            replace h := of_bif_f h g50
            refine go_run' ttok 3 rfl ?_
            refine go_nil (fun _ => by kernel_rfl) ?_
            refine then_norm ?_
            refine awp_ret ?_
            have e53 := of_some h
            subst e53
            refine ret_ret ?_
            refine fin0 ttok rfl rfl ?_
            exact (wkP_refl _ rfl)
        · rw [g49]
          replace h := of_bif_f h g49
          refine go_run' ttok 10 rfl ?_
          refine go_nil (fun _ => by kernel_rfl) ?_
          refine then_norm ?_
          refine awp_ret ?_
          have e54 := of_some h
          subst e54
          refine ret_ret ?_
          refine fin0 ttok rfl rfl ?_
          exact (wkP_refl _ rfl)

/-- sawmill/sawmilllaw05.small -/
noncomputable def l05_small_g (f : Tsawmilllaw05_Field) : Bool :=
  (bif (decide (((f.T.size : Nat) : Int) ≤ 3000)) then (decide (((f.L.length : Nat) : Int) ≤ 300)) else false)
theorem l05_small_w (f : Tsawmilllaw05_Field) (r : Bool) (h : l05_small_g f = r) : Holds Try.prog 36 [(encTsawmilllaw05_Field f)] [] (B r) [] := by
  unfold l05_small_g at h
  refine holds_fn Try.func36 rfl Try.ntmps36 rfl rfl rfl ?_
  refine awp_seq ?_
  refine awp_go hmix ?_
  refine go_run' ttok 2 rfl ?_
  refine go_nil nd ?_
  refine then_norm ?_
  refine awp_seq ?_
  refine awp_go hmix ?_
  refine go_run' ttok 5 rfl ?_
  refine go_gcase rfl rfl rfl (fun g1 => ?_) (fun g1 => ?_)
  · rw [g1]
    replace h := of_bif_t h g1
    refine go_run' ttok 2 rfl ?_
    refine go_lenT I f.L ttok rfl rfl rfl rfl rfl rfl ?_
    refine go_run' ttok 3 rfl ?_
    refine go_nil nd ?_
    refine then_norm ?_
    refine awp_ret ?_
    have e2 := h
    subst e2
    refine ret_ret ?_
    refine fin0 ttok rfl rfl ?_
    exact (wkP_refl _ rfl)
  · rw [g1]
    replace h := of_bif_f h g1
    refine go_run' ttok 6 rfl ?_
    refine go_nil nd ?_
    refine then_norm ?_
    refine awp_ret ?_
    have e3 := h
    subst e3
    refine ret_ret ?_
    refine fin0 ttok rfl rfl ?_
    exact (wkP_refl _ rfl)

/-- sawmill/sawmilllaw05.write -/
noncomputable def l05_write_g (f : Tsawmilllaw05_Field) : Option ByteArray :=
  (bif (f.Kind == 0) then (Option.bind (wire_Uint_g f.N) (fun uv => some uv)) else (bif (f.Kind == 1) then (Option.bind (wire_Int_g f.I_) (fun iv => some iv)) else (bif (f.Kind == 2) then (Option.bind (wire_Text_g f.T) (fun tv => some tv)) else (Option.bind (wire_Ints_g f.L) (fun iv1 => some iv1)))))
theorem l05_write_w (f : Tsawmilllaw05_Field) (r : ByteArray) (h : l05_write_g f = some r) : Holds Try.prog 37 [(encTsawmilllaw05_Field f)] [] (S r) [] := by
  unfold l05_write_g at h
  refine holds_fn Try.func37 rfl Try.ntmps37 rfl rfl rfl ?_
  refine awp_seq ?_
  refine awp_go hmix ?_
  refine go_run' ttok 2 rfl ?_
  refine go_nil nd ?_
  refine then_norm ?_
  refine awp_seq ?_
  refine awp_seq ?_
  refine awp_go hmix ?_
  refine go_run' ttok 2 rfl ?_
  refine go_nil nd ?_
  refine then_norm ?_
  refine awp_block ?_
  refine awp_seq ?_
  refine awp_go hmix ?_
  refine go_run' ttok 2 rfl ?_
  refine go_nil nd ?_
  refine then_norm ?_
  refine awp_cond (b := (f.Kind == 0)) rfl (fun c1 => ?_) (fun c1 => ?_)
  · replace h := of_bif_t h c1
    refine awp_seq ?_
    refine awp_go hmix ?_
    refine go_run' ttok 2 rfl ?_
    obtain ⟨uv, hv2, h⟩ := of_obind h
    refine go_call fn12 (wire_Uint_w f.N uv hv2) rfl rfl rfl rfl rfl rfl rfl ?_
    refine go_run' ttok 1 rfl ?_
    refine go_nil nd ?_
    refine then_norm ?_
    refine awp_ret ?_
    refine block_ret ?_
    refine then_ret ?_
    have e3 := of_some h
    subst e3
    refine ret_ret ?_
    refine fin0 ttok rfl rfl ?_
    exact (wkP_refl _ rfl)
  · replace h := of_bif_f h c1
    refine awp_seq ?_
    refine awp_go hmix ?_
    refine go_run' ttok 2 rfl ?_
    refine go_nil nd ?_
    refine then_norm ?_
    refine awp_cond (b := (f.Kind == 1)) rfl (fun c4 => ?_) (fun c4 => ?_)
    · replace h := of_bif_t h c4
      refine awp_seq ?_
      refine awp_go hmix ?_
      refine go_run' ttok 2 rfl ?_
      obtain ⟨iv, hv5, h⟩ := of_obind h
      refine go_call fn14 (wire_Int_w f.I_ iv hv5) rfl rfl rfl rfl rfl rfl rfl ?_
      refine go_run' ttok 1 rfl ?_
      refine go_nil nd ?_
      refine then_norm ?_
      refine awp_ret ?_
      refine block_ret ?_
      refine then_ret ?_
      have e6 := of_some h
      subst e6
      refine ret_ret ?_
      refine fin0 ttok rfl rfl ?_
      exact (wkP_refl _ rfl)
    · replace h := of_bif_f h c4
      refine awp_seq ?_
      refine awp_go hmix ?_
      refine go_run' ttok 2 rfl ?_
      refine go_nil nd ?_
      refine then_norm ?_
      refine awp_cond (b := (f.Kind == 2)) rfl (fun c7 => ?_) (fun c7 => ?_)
      · replace h := of_bif_t h c7
        refine awp_seq ?_
        refine awp_go hmix ?_
        refine go_run' ttok 2 rfl ?_
        obtain ⟨tv, hv8, h⟩ := of_obind h
        refine go_call fn17 (wire_Text_w f.T tv hv8) rfl rfl rfl rfl rfl rfl rfl ?_
        refine go_run' ttok 1 rfl ?_
        refine go_nil nd ?_
        refine then_norm ?_
        refine awp_ret ?_
        refine block_ret ?_
        refine then_ret ?_
        have e9 := of_some h
        subst e9
        refine ret_ret ?_
        refine fin0 ttok rfl rfl ?_
        exact (wkP_refl _ rfl)
      · replace h := of_bif_f h c7
        refine awp_skip ?_
        refine block_norm ?_
        refine then_norm ?_
        refine awp_seq ?_
        refine awp_go hmix ?_
        refine go_run' ttok 2 rfl ?_
        obtain ⟨iv1, hv10, h⟩ := of_obind h
        refine go_call fn19 (wire_Ints_w f.L iv1 hv10) rfl rfl rfl rfl rfl rfl rfl ?_
        refine go_run' ttok 1 rfl ?_
        refine go_nil nd ?_
        refine then_norm ?_
        refine awp_ret ?_
        have e11 := of_some h
        subst e11
        refine ret_ret ?_
        refine fin0 ttok rfl rfl ?_
        exact (wkP_refl _ rfl)

noncomputable def l05_exact_s1 (f : Tsawmilllaw05_Field) (i : Int) (o1 : Tsawmilllaw05_Op) : Option ((Int × Tsawmilllaw05_Op) ⊕ Tsawmilllaw05_Op) :=
  (bif (decide (i < ((f.L.length : Nat) : Int))) then (Option.bind (getI f.L i) (fun e => (Option.bind (getI f.L i) (fun e1 => some (Sum.inl ((W64 (i + 1)), (⟨o1.Kind, (min o1.Low e), (max o1.High e1), o1.Most⟩ : Tsawmilllaw05_Op))))))) else some (Sum.inr o1))
/-- sawmill/sawmilllaw05.exact -/
noncomputable def l05_exact_g (f : Tsawmilllaw05_Field) : Option Tsawmilllaw05_Op :=
  (Option.bind ((bif (decide (2 < f.Kind)) then (loopO (fun q => l05_exact_s1 f q.1 q.2) (0, (⟨f.Kind, 9223372036854775807, (-9223372036854775808), ((f.L.length : Nat) : Int)⟩ : Tsawmilllaw05_Op))) else some (⟨f.Kind, f.I_, f.I_, ((f.T.size : Nat) : Int)⟩ : Tsawmilllaw05_Op)) : Option Tsawmilllaw05_Op) (fun o => some o))
theorem l05_exact_w (f : Tsawmilllaw05_Field) (r : Tsawmilllaw05_Op) (h : l05_exact_g f = some r) : Holds Try.prog 38 [(encTsawmilllaw05_Field f)] [] (encTsawmilllaw05_Op r) [] := by
  unfold l05_exact_g at h
  refine holds_fn Try.func38 rfl Try.ntmps38 rfl rfl rfl ?_
  refine awp_seq ?_
  refine awp_go hmix ?_
  refine go_run' ttok 2 rfl ?_
  refine go_nil nd ?_
  refine then_norm ?_
  refine awp_seq ?_
  refine awp_go hmix ?_
  refine go_run' ttok 12 rfl ?_
  refine go_nil nd ?_
  refine then_norm ?_
  obtain ⟨y, hx1, h⟩ := of_obind h
  refine awp_seqJ (X := Tsawmilllaw05_Op) [2, 3] [2] (fun w => []) (fun w => [(3, some ⟨32, 4, [(.agg [(U8 w.Kind), (I w.Low), (I w.High), (I w.Most)])]⟩)]) (fun w => w = y) rfl rfl ?_ ?_
  · skip
    refine awp_seq ?_
    refine awp_go hmix ?_
    refine go_run' ttok 3 rfl ?_
    refine go_nil nd ?_
    refine then_norm ?_
    refine awp_cond (b := (decide (2 < f.Kind))) rfl (fun c3 => ?_) (fun c3 => ?_)
    · replace hx1 := of_bif_t hx1 c3
      refine awp_seq ?_
      refine awp_go hmix ?_
      refine go_run' ttok 4 rfl ?_
      refine go_lenT I f.L ttok rfl rfl rfl rfl rfl rfl ?_
      refine go_run' ttok 2 rfl ?_
      refine go_nil nd ?_
      refine then_norm ?_
      refine awp_seq ?_
      refine awp_go hmix ?_
      refine go_run' ttok 1 rfl ?_
      refine go_nil nd ?_
      refine then_norm ?_
      refine awp_block ?_
      refine awp_loopD (X := (Int × Tsawmilllaw05_Op)) (Y := Tsawmilllaw05_Op) [1, 2, 3] [1, 2] (fun q => [(4, (I q.1))]) (fun q => [(3, some ⟨32, 4, [(.agg [(U8 q.2.Kind), (I q.2.Low), (I q.2.High), (I q.2.Most)])]⟩)]) (fun q => l05_exact_s1 f q.1 q.2) (0, (⟨f.Kind, 9223372036854775807, (-9223372036854775808), ((f.L.length : Nat) : Int)⟩ : Tsawmilllaw05_Op)) [(3, some 3), (1, some 1), (2, some 2)] hx1 ⟨rfl, rfl, rfl, rfl, rfl, ⟨wkP_id _ rfl, trivial⟩, ⟨⟨_, rfl, rfl, rfl, .inl ⟨rfl, nr_one rfl⟩⟩, trivial⟩⟩ (fun x vR vz hz4 hk5 => ?_)
      obtain ⟨i, o1⟩ := x
      change l05_exact_s1 f i o1 = _ at hz4
      unfold l05_exact_s1 at hz4
      refine awp_seq ?_
      refine awp_seq ?_
      refine awp_go hmix ?_
      refine go_run' ttok 3 rfl ?_
      refine go_lenT I f.L ttok rfl rfl rfl rfl rfl rfl ?_
      refine go_run' ttok 1 rfl ?_
      refine go_nil nd ?_
      refine then_norm ?_
      refine awp_cond (b := (decide (i < ((f.L.length : Nat) : Int)))) rfl (fun c6 => ?_) (fun c6 => ?_)
      · replace hz4 := of_bif_t hz4 c6
        refine awp_skip ?_
        refine then_norm ?_
        refine awp_seq ?_
        refine awp_block ?_
        refine awp_seq ?_
        refine awp_go hmix ?_
        refine go_run' ttok 5 rfl ?_
        obtain ⟨e, hv7, hz4⟩ := of_obind hz4
        refine go_indexT I f.L i e hv7 ttok rfl rfl rfl rfl rfl rfl rfl rfl rfl ?_
        refine go_run' ttok 4 rfl ?_
        refine go_nil (fun _ => by kernel_rfl) ?_
        refine then_norm ?_
        refine awp_go hmix ?_
        refine go_run' ttok 5 rfl ?_
        obtain ⟨e1, hv8, hz4⟩ := of_obind hz4
        refine go_indexT I f.L i e1 hv8 ttok rfl rfl rfl rfl rfl rfl rfl rfl rfl ?_
        refine go_run' ttok 4 rfl ?_
        refine go_nil (fun _ => by kernel_rfl) ?_
        refine block_norm ?_
        refine then_norm ?_
        refine awp_go hmix ?_
        refine go_run' ttok 3 rfl ?_
        refine go_nil nd ?_
        have e9 := of_some hz4
        subst e9
        refine then_norm ⟨rfl, ((W64 (i + 1)), (⟨o1.Kind, (min o1.Low e), (max o1.High e1), o1.Most⟩ : Tsawmilllaw05_Op)), [(3, some 3), (1, some 1), (2, some 2)], ⟨rfl, rfl, rfl, rfl, rfl, ⟨wkP_id _ rfl, trivial⟩, ⟨⟨_, rfl, rfl, rfl, .inl ⟨rfl, nr_one rfl⟩⟩, trivial⟩⟩, hk5⟩
      · replace hz4 := of_bif_f hz4 c6
        refine awp_exit ?_
        refine then_exit ?_
        obtain ⟨t, hn10, hq⟩ := of_mapr' hz4
        subst hq
        have hq : t = _ := hk5
        subst hq
        refine then_exit ?_
        refine block_here ?_
        have e11 := of_some hn10
        refine then_norm ⟨rfl, o1, [(3, some 3), (2, some 2)], ⟨rfl, rfl, rfl, rfl, rfl, trivial, ⟨⟨_, rfl, rfl, rfl, .inl ⟨rfl, nr_one rfl⟩⟩, trivial⟩⟩, e11⟩
    · replace hx1 := of_bif_f hx1 c3
      refine awp_skip ?_
      have e12 := of_some hx1
      refine then_norm ⟨rfl, (⟨f.Kind, f.I_, f.I_, ((f.T.size : Nat) : Int)⟩ : Tsawmilllaw05_Op), [(3, some 3), (2, some 2)], ⟨rfl, rfl, rfl, rfl, rfl, trivial, ⟨⟨_, rfl, rfl, rfl, .inl ⟨rfl, nr_one rfl⟩⟩, trivial⟩⟩, e12⟩
  · intro o hw2
    subst hw2
    refine awp_seq ?_
    refine awp_go hmix ?_
    refine go_run' ttok 2 rfl ?_
    refine go_nil nd ?_
    refine then_norm ?_
    refine awp_ret ?_
    have e13 := of_some h
    subst e13
    refine ret_ret ?_
    refine fin0 ttok rfl rfl ?_
    exact (wkP_refl _ rfl)

noncomputable def l05_WireBack_s1 (l : (List Tsawmilllaw05_Field)) (s1 : ByteArray) (i : Int) : Option ((ByteArray × Int) ⊕ (Bool ⊕ ByteArray)) :=
  (bif (decide (i < ((l.length : Nat) : Int))) then (Option.bind (getI l i) (fun e => (bif (!(l05_small_g e)) then (Option.bind l05_awake_g (fun av1 => some (Sum.inr (Sum.inl av1)))) else (Option.bind (getI l i) (fun e1 => (Option.bind (l05_write_g e1) (fun wv => (Option.bind (catO s1 wv) (fun t2 => some (Sum.inl (t2, (W64 (i + 1))))))))))))) else some (Sum.inr (Sum.inr s1)))
noncomputable def l05_WireBack_s2 (l : (List Tsawmilllaw05_Field)) (i1 : Int) (vv : Twire_Reader) : Option ((Int × Twire_Reader) ⊕ (Bool ⊕ Twire_Reader)) :=
  (bif (decide (i1 < ((l.length : Nat) : Int))) then (Option.bind (getI l i1) (fun e2 => (Option.bind (l05_exact_g e2) (fun ev => (Option.bind (l05_read_g vv ev) (fun rv => (bif (e2.Kind == 0) then (bif (!(rv.1.N == e2.N)) then some (Sum.inr (Sum.inl false)) else (bif ((wire_Reader__Err_g rv.2) != 0) then some (Sum.inr (Sum.inl false)) else some (Sum.inl ((W64 (i1 + 1)), rv.2)))) else (bif (e2.Kind == 1) then (bif (!(rv.1.I_ == e2.I_)) then some (Sum.inr (Sum.inl false)) else (bif ((wire_Reader__Err_g rv.2) != 0) then some (Sum.inr (Sum.inl false)) else some (Sum.inl ((W64 (i1 + 1)), rv.2)))) else (bif (e2.Kind == 2) then (bif (!(bEq rv.1.T e2.T)) then some (Sum.inr (Sum.inl false)) else (bif ((wire_Reader__Err_g rv.2) != 0) then some (Sum.inr (Sum.inl false)) else some (Sum.inl ((W64 (i1 + 1)), rv.2)))) else (Option.bind (r05_Same_g rv.1.L e2.L) (fun sv => (bif (!sv) then some (Sum.inr (Sum.inl false)) else (bif ((wire_Reader__Err_g rv.2) != 0) then some (Sum.inr (Sum.inl false)) else some (Sum.inl ((W64 (i1 + 1)), rv.2))))))))))))))) else some (Sum.inr (Sum.inr vv)))
/-- sawmill/sawmilllaw05.WireBack -/
noncomputable def l05_WireBack_g (l : (List Tsawmilllaw05_Field)) : Option Bool :=
  (bif (decide (40 < ((l.length : Nat) : Int))) then (Option.bind l05_awake_g (fun av => some av)) else (Option.bind ((loopO (fun q => l05_WireBack_s1 l q.1 q.2) ((⟨#[]⟩ : ByteArray), 0)) : Option (Bool ⊕ ByteArray)) (Sum.elim (fun q => some q) (fun s => (letB (wire_NewReader_g s) (fun nv => (Option.bind ((loopO (fun q => l05_WireBack_s2 l q.1 q.2) (0, nv)) : Option (Bool ⊕ Twire_Reader)) (Sum.elim (fun q => some q) (fun w1 => (bif ((wire_Reader__End_g w1) == 0) then (bif ((wire_Reader__Left_g w1) == 0) then (Option.bind l05_awake_g (fun av2 => some av2)) else some false) else some false))))))))))
theorem l05_WireBack_w (l : (List Tsawmilllaw05_Field)) (r : Bool) (h : l05_WireBack_g l = some r) : Holds Try.prog 7 [((encL encTsawmilllaw05_Field) l)] [] (B r) [] := by
  unfold l05_WireBack_g at h
  refine holds_fn Try.func7 rfl Try.ntmps7 rfl rfl rfl ?_
  refine awp_seq ?_
  refine awp_go hmix ?_
  refine go_run' ttok 1 rfl ?_
  refine go_nil nd ?_
  refine then_norm ?_
  refine awp_seq ?_
  refine awp_seq ?_
  refine awp_go hmix ?_
  refine go_run' ttok 1 rfl ?_
  refine go_lenT encTsawmilllaw05_Field l ttok rfl rfl rfl rfl rfl rfl ?_
  refine go_run' ttok 1 rfl ?_
  refine go_nil nd ?_
  refine then_norm ?_
  refine awp_cond (b := (decide (40 < ((l.length : Nat) : Int)))) rfl (fun c1 => ?_) (fun c1 => ?_)
  · replace h := of_bif_t h c1
    refine awp_seq ?_
    refine awp_go hmix ?_
    obtain ⟨av, hv2, h⟩ := of_obind h
    refine go_call fn16 (l05_awake_w av hv2) rfl rfl rfl rfl rfl rfl rfl ?_
    refine go_run' ttok 1 rfl ?_
    refine go_nil nd ?_
    refine then_norm ?_
    refine awp_ret ?_
    refine then_ret ?_
    have e3 := of_some h
    subst e3
    refine ret_ret ?_
    refine fin0 ttok rfl rfl ?_
    exact (wkP_refl _ rfl)
  · replace h := of_bif_f h c1
    refine awp_skip ?_
    refine then_norm ?_
    refine awp_seq ?_
    refine awp_go hmix ?_
    refine go_run' ttok 1 rfl ?_
    refine go_nil nd ?_
    refine then_norm ?_
    obtain ⟨y, hx4, h⟩ := of_obind h
    refine awp_seqJ (X := ByteArray) [0] [] (fun w => [(3, (S w))]) (fun w => []) (fun w => Sum.inr w = y) rfl rfl ?_ ?_
    · skip
      refine awp_seq ?_
      refine awp_go hmix ?_
      refine go_run' ttok 1 rfl ?_
      refine go_nil nd ?_
      refine then_norm ?_
      refine awp_block ?_
      refine awp_loopD (X := (ByteArray × Int)) (Y := (Bool ⊕ ByteArray)) [0] [] (fun q => [(3, (S q.1)), (4, (I q.2))]) (fun q => []) (fun q => l05_WireBack_s1 l q.1 q.2) ((⟨#[]⟩ : ByteArray), 0) [] hx4 ⟨rfl, rfl, rfl, rfl, rfl, ⟨wkP_id _ rfl, wkP_id _ rfl, trivial⟩, trivial⟩ (fun x vR vz hz6 hk7 => ?_)
      obtain ⟨s1, i⟩ := x
      change l05_WireBack_s1 l s1 i = _ at hz6
      unfold l05_WireBack_s1 at hz6
      refine awp_seq ?_
      refine awp_seq ?_
      refine awp_go hmix ?_
      refine go_run' ttok 2 rfl ?_
      refine go_lenT encTsawmilllaw05_Field l ttok rfl rfl rfl rfl rfl rfl ?_
      refine go_run' ttok 1 rfl ?_
      refine go_nil nd ?_
      refine then_norm ?_
      refine awp_cond (b := (decide (i < ((l.length : Nat) : Int)))) rfl (fun c8 => ?_) (fun c8 => ?_)
      · replace hz6 := of_bif_t hz6 c8
        refine awp_skip ?_
        refine then_norm ?_
        refine awp_seq ?_
        refine awp_block ?_
        refine awp_seq ?_
        refine awp_seq ?_
        refine awp_go hmix ?_
        refine go_run' ttok 2 rfl ?_
        obtain ⟨e, hv9, hz6⟩ := of_obind hz6
        refine go_indexT encTsawmilllaw05_Field l i e hv9 ttok rfl rfl rfl rfl rfl rfl rfl rfl rfl ?_
        refine go_run' ttok 1 rfl ?_
        refine go_call fn36 (l05_small_w e _ rfl) rfl rfl rfl rfl rfl rfl rfl ?_
        refine go_run' ttok 1 rfl ?_
        refine go_nil nd ?_
        refine then_norm ?_
        refine awp_cond (b := (!(l05_small_g e))) rfl (fun c10 => ?_) (fun c10 => ?_)
        · replace hz6 := of_bif_t hz6 c10
          refine awp_seq ?_
          refine awp_go hmix ?_
          obtain ⟨av1, hv11, hz6⟩ := of_obind hz6
          refine go_call fn16 (l05_awake_w av1 hv11) rfl rfl rfl rfl rfl rfl rfl ?_
          refine go_run' ttok 1 rfl ?_
          refine go_nil nd ?_
          refine then_norm ?_
          refine awp_ret ?_
          refine then_ret ?_
          refine block_ret ?_
          refine then_ret ?_
          obtain ⟨t, hn12, hq⟩ := of_mapr' hz6
          subst hq
          have hq : t = _ := hk7
          subst hq
          refine then_ret ?_
          refine block_ret ?_
          obtain ⟨t1, hn13, hq⟩ := of_mapl' hn12
          subst hq
          have hq := of_inl h
          replace hq := of_some hq
          subst hq
          refine then_ret ?_
          have e14 := of_some hn13
          subst e14
          refine ret_ret ?_
          refine fin0 ttok rfl rfl ?_
          exact (wkP_refl _ rfl)
        · replace hz6 := of_bif_f hz6 c10
          refine awp_skip ?_
          refine then_norm ?_
          refine awp_go hmix ?_
          refine go_run' ttok 3 rfl ?_
          obtain ⟨e1, hv15, hz6⟩ := of_obind hz6
          refine go_indexT encTsawmilllaw05_Field l i e1 hv15 ttok rfl rfl rfl rfl rfl rfl rfl rfl rfl ?_
          refine go_run' ttok 1 rfl ?_
          obtain ⟨wv, hv16, hz6⟩ := of_obind hz6
          refine go_call fn37 (l05_write_w e1 wv hv16) rfl rfl rfl rfl rfl rfl rfl ?_
          obtain ⟨t2, hv17, hz6⟩ := of_obind hz6
          refine go_catT s1 wv t2 hv17 rfl rfl rfl rfl rfl ?_
          refine go_run' ttok 1 rfl ?_
          refine go_nil nd ?_
          refine block_norm ?_
          refine then_norm ?_
          refine awp_go hmix ?_
          refine go_run' ttok 3 rfl ?_
          refine go_nil nd ?_
          have e18 := of_some hz6
          subst e18
          refine then_norm ⟨rfl, (t2, (W64 (i + 1))), [], ⟨rfl, rfl, rfl, rfl, rfl, ⟨wkP_id _ rfl, wkP_id _ rfl, trivial⟩, trivial⟩, hk7⟩
      · replace hz6 := of_bif_f hz6 c8
        refine awp_exit ?_
        refine then_exit ?_
        obtain ⟨t3, hn19, hq⟩ := of_mapr' hz6
        subst hq
        have hq : t3 = _ := hk7
        subst hq
        refine then_exit ?_
        refine block_here ?_
        have e20 := of_some hn19
        refine then_norm ⟨rfl, s1, [], ⟨rfl, rfl, rfl, rfl, rfl, ⟨wkP_id _ rfl, trivial⟩, trivial⟩, e20⟩
    · intro s hw5
      subst hw5
      replace h := of_inr h
      refine awp_seq ?_
      refine awp_go hmix ?_
      refine go_run' ttok 1 rfl ?_
      obtain ⟨nv, hv21, h⟩ := of_let h
      refine go_callM (.ref 35 0 0) [] [(35, some ⟨81, 3, [(.agg [(S nv.s), (I nv.at_), (I nv.e)])]⟩)] [] [(35, some 999)] fn21 (wire_NewReader_w s nv hv21) rfl rfl rfl rfl rfl trivial ⟨(wkP_refl _ rfl), trivial⟩ rfl rfl trivial rfl rfl ⟨⟨_, rfl, rfl, rfl, .inl ⟨rfl, nr_one rfl⟩⟩, trivial⟩ ⟨rfl, rfl, rfl⟩ rfl (fun h => absurd rfl h) rfl rfl rfl ?_
      refine go_run' ttok 1 rfl ?_
      refine go_nil nd ?_
      refine then_norm ?_
      obtain ⟨y1, hx22, h⟩ := of_obind h
      refine awp_seqJ (X := Twire_Reader) [5] [] (fun w2 => []) (fun w2 => [(35, some ⟨81, 3, [(.agg [(S w2.s), (I w2.at_), (I w2.e)])]⟩)]) (fun w2 => Sum.inr w2 = y1) rfl rfl ?_ ?_
      · skip
        refine awp_seq ?_
        refine awp_go hmix ?_
        refine go_run' ttok 1 rfl ?_
        refine go_nil nd ?_
        refine then_norm ?_
        refine awp_block ?_
        refine awp_loopD (X := (Int × Twire_Reader)) (Y := (Bool ⊕ Twire_Reader)) [0, 5] [] (fun q => [(6, (I q.1))]) (fun q => [(35, some ⟨81, 3, [(.agg [(S q.2.s), (I q.2.at_), (I q.2.e)])]⟩)]) (fun q => l05_WireBack_s2 l q.1 q.2) (0, nv) [(35, some 35)] hx22 ⟨rfl, rfl, rfl, rfl, rfl, ⟨wkP_id _ rfl, trivial⟩, ⟨⟨_, rfl, rfl, rfl, .inl ⟨rfl, nr_one rfl⟩⟩, trivial⟩⟩ (fun x1 vR1 vz1 hz24 hk25 => ?_)
        obtain ⟨i1, vv⟩ := x1
        change l05_WireBack_s2 l i1 vv = _ at hz24
        unfold l05_WireBack_s2 at hz24
        refine awp_seq ?_
        refine awp_seq ?_
        refine awp_go hmix ?_
        refine go_run' ttok 2 rfl ?_
        refine go_lenT encTsawmilllaw05_Field l ttok rfl rfl rfl rfl rfl rfl ?_
        refine go_run' ttok 1 rfl ?_
        refine go_nil nd ?_
        refine then_norm ?_
        refine awp_cond (b := (decide (i1 < ((l.length : Nat) : Int)))) rfl (fun c26 => ?_) (fun c26 => ?_)
        · replace hz24 := of_bif_t hz24 c26
          refine awp_skip ?_
          refine then_norm ?_
          refine awp_seq ?_
          refine awp_block ?_
          refine awp_seq ?_
          refine awp_go hmix ?_
          refine go_run' ttok 2 rfl ?_
          obtain ⟨e2, hv27, hz24⟩ := of_obind hz24
          refine go_indexT encTsawmilllaw05_Field l i1 e2 hv27 ttok rfl rfl rfl rfl rfl rfl rfl rfl rfl ?_
          refine go_run' ttok 3 rfl ?_
          refine go_nil nd ?_
          refine then_norm ?_
          refine awp_seq ?_
          refine awp_go hmix ?_
          refine go_run' ttok 2 rfl ?_
          obtain ⟨ev, hv28, hz24⟩ := of_obind hz24
          refine go_call fn38 (l05_exact_w e2 ev hv28) rfl rfl rfl rfl rfl rfl rfl ?_
          obtain ⟨rv, hv29, hz24⟩ := of_obind hz24
          refine go_callM (.agg [(U8 rv.1.Kind), (U64 rv.1.N), (I rv.1.I_), (S rv.1.T), (encL I rv.1.L)]) [] [(35, some ⟨81, 3, [(.agg [(S rv.2.s), (I rv.2.at_), (I rv.2.e)])]⟩)] [(1000, some 35)] [(35, some 1000)] fn27 (l05_read_w vv ev rv hv29) rfl rfl rfl rfl rfl trivial ⟨⟨rfl, rfl, rfl⟩, (wkP_refl _ rfl), trivial⟩ rfl rfl ⟨⟨_, rfl, rfl, rfl, .inl ⟨rfl, nr_one rfl⟩⟩, trivial⟩ rfl rfl ⟨⟨_, rfl, rfl, rfl, .inl ⟨rfl, nr_one rfl⟩⟩, trivial⟩ (wkP_refl _ rfl) rfl (fun h => absurd rfl h) rfl rfl rfl ?_
          refine go_run' ttok 2 rfl ?_
          refine go_nil nd ?_
          refine then_norm ?_
          refine awp_seq ?_
          refine awp_go hmix ?_
          refine go_run' ttok 1 rfl ?_
          refine go_nil nd ?_
          refine then_norm ?_
          refine awp_seq ?_
          refine awp_seq ?_
          refine awp_go hmix ?_
          refine go_run' ttok 2 rfl ?_
          refine go_nil nd ?_
          refine then_norm ?_
          refine awp_block ?_
          refine awp_seq ?_
          refine awp_go hmix ?_
          refine go_run' ttok 2 rfl ?_
          refine go_nil nd ?_
          refine then_norm ?_
          refine awp_cond (b := (e2.Kind == 0)) rfl (fun c30 => ?_) (fun c30 => ?_)
          · replace hz24 := of_bif_t hz24 c30
            refine awp_go hmix ?_
            refine go_run' ttok 6 rfl ?_
            refine go_nil nd ?_
            refine block_norm ?_
            refine then_norm ?_
            refine awp_seq ?_
            refine awp_go hmix ?_
            refine go_run' ttok 3 rfl ?_
            refine go_gcase rfl rfl rfl (fun g31 => ?_) (fun g31 => ?_)
            · rw [g31]
              replace hz24 := of_bif_t hz24 g31
              refine go_run' ttok 4 rfl ?_
              refine go_nil nd ?_
              refine then_norm ?_
              refine awp_cond rfl (fun tt0 => ?_) (fun h => by cases h)
              clear tt0
              refine awp_seq ?_
              refine awp_go hmix ?_
              refine go_run' ttok 1 rfl ?_
              refine go_nil nd ?_
              refine then_norm ?_
              refine awp_ret ?_
              refine block_ret ?_
              refine then_ret ?_
              obtain ⟨t4, hn32, hq⟩ := of_mapr' hz24
              subst hq
              have hq : t4 = _ := hk25
              subst hq
              refine then_ret ?_
              refine block_ret ?_
              obtain ⟨t5, hn33, hq⟩ := of_mapl' hn32
              subst hq
              have hq := of_inl h
              replace hq := of_some hq
              subst hq
              refine then_ret ?_
              have e34 := of_some hn33
              subst e34
              refine ret_ret ?_
              refine fin0 ttok rfl rfl ?_
              exact (wkP_refl _ rfl)
            · rw [g31]
              replace hz24 := of_bif_f hz24 g31
              refine go_run' ttok 1 rfl ?_
              refine go_callM (I (wire_Reader__Err_g rv.2)) [] [(35, some ⟨81, 3, [(.agg [(S rv.2.s), (I rv.2.at_), (I rv.2.e)])]⟩)] [(1000, some 35)] [(35, some 1000)] fn34 (wire_Reader__Err_w rv.2 _ rfl) rfl rfl rfl rfl rfl trivial ⟨⟨rfl, rfl, rfl⟩, trivial⟩ rfl rfl ⟨⟨_, rfl, rfl, rfl, .inl ⟨rfl, nr_one rfl⟩⟩, trivial⟩ rfl rfl ⟨⟨_, rfl, rfl, rfl, .inl ⟨rfl, nr_one rfl⟩⟩, trivial⟩ (wkP_refl _ rfl) rfl (fun h => absurd rfl h) rfl rfl rfl ?_
              refine go_run' ttok 2 rfl ?_
              refine go_nil nd ?_
              refine then_norm ?_
              refine awp_cond (b := ((wire_Reader__Err_g rv.2) != 0)) rfl (fun c35 => ?_) (fun c35 => ?_)
              · replace hz24 := of_bif_t hz24 c35
                refine awp_seq ?_
                refine awp_go hmix ?_
                refine go_run' ttok 1 rfl ?_
                refine go_nil nd ?_
                refine then_norm ?_
                refine awp_ret ?_
                refine block_ret ?_
                refine then_ret ?_
                obtain ⟨t6, hn36, hq⟩ := of_mapr' hz24
                subst hq
                have hq : t6 = _ := hk25
                subst hq
                refine then_ret ?_
                refine block_ret ?_
                obtain ⟨t7, hn37, hq⟩ := of_mapl' hn36
                subst hq
                have hq := of_inl h
                replace hq := of_some hq
                subst hq
                refine then_ret ?_
                have e38 := of_some hn37
                subst e38
                refine ret_ret ?_
                refine fin0 ttok rfl rfl ?_
                exact (wkP_refl _ rfl)
              · replace hz24 := of_bif_f hz24 c35
                refine awp_skip ?_
                refine block_norm ?_
                refine then_norm ?_
                refine awp_go hmix ?_
                refine go_run' ttok 3 rfl ?_
                refine go_nil nd ?_
                have e39 := of_some hz24
                subst e39
                refine then_norm ⟨rfl, ((W64 (i1 + 1)), rv.2), [(35, some 35)], ⟨rfl, rfl, rfl, rfl, rfl, ⟨wkP_id _ rfl, trivial⟩, ⟨⟨_, rfl, rfl, rfl, .inl ⟨rfl, nr_one rfl⟩⟩, trivial⟩⟩, hk25⟩
          · replace hz24 := of_bif_f hz24 c30
            refine awp_seq ?_
            refine awp_go hmix ?_
            refine go_run' ttok 2 rfl ?_
            refine go_nil nd ?_
            refine then_norm ?_
            refine awp_cond (b := (e2.Kind == 1)) rfl (fun c40 => ?_) (fun c40 => ?_)
            · replace hz24 := of_bif_t hz24 c40
              refine awp_go hmix ?_
              refine go_run' ttok 6 rfl ?_
              refine go_nil nd ?_
              refine block_norm ?_
              refine then_norm ?_
              refine awp_seq ?_
              refine awp_go hmix ?_
              refine go_run' ttok 3 rfl ?_
              refine go_gcase rfl rfl rfl (fun g41 => ?_) (fun g41 => ?_)
              · rw [g41]
                replace hz24 := of_bif_t hz24 g41
                refine go_run' ttok 4 rfl ?_
                refine go_nil nd ?_
                refine then_norm ?_
                refine awp_cond rfl (fun tt0 => ?_) (fun h => by cases h)
                clear tt0
                refine awp_seq ?_
                refine awp_go hmix ?_
                refine go_run' ttok 1 rfl ?_
                refine go_nil nd ?_
                refine then_norm ?_
                refine awp_ret ?_
                refine block_ret ?_
                refine then_ret ?_
                obtain ⟨t8, hn42, hq⟩ := of_mapr' hz24
                subst hq
                have hq : t8 = _ := hk25
                subst hq
                refine then_ret ?_
                refine block_ret ?_
                obtain ⟨t9, hn43, hq⟩ := of_mapl' hn42
                subst hq
                have hq := of_inl h
                replace hq := of_some hq
                subst hq
                refine then_ret ?_
                have e44 := of_some hn43
                subst e44
                refine ret_ret ?_
                refine fin0 ttok rfl rfl ?_
                exact (wkP_refl _ rfl)
              · rw [g41]
                replace hz24 := of_bif_f hz24 g41
                refine go_run' ttok 1 rfl ?_
                refine go_callM (I (wire_Reader__Err_g rv.2)) [] [(35, some ⟨81, 3, [(.agg [(S rv.2.s), (I rv.2.at_), (I rv.2.e)])]⟩)] [(1000, some 35)] [(35, some 1000)] fn34 (wire_Reader__Err_w rv.2 _ rfl) rfl rfl rfl rfl rfl trivial ⟨⟨rfl, rfl, rfl⟩, trivial⟩ rfl rfl ⟨⟨_, rfl, rfl, rfl, .inl ⟨rfl, nr_one rfl⟩⟩, trivial⟩ rfl rfl ⟨⟨_, rfl, rfl, rfl, .inl ⟨rfl, nr_one rfl⟩⟩, trivial⟩ (wkP_refl _ rfl) rfl (fun h => absurd rfl h) rfl rfl rfl ?_
                refine go_run' ttok 2 rfl ?_
                refine go_nil nd ?_
                refine then_norm ?_
                refine awp_cond (b := ((wire_Reader__Err_g rv.2) != 0)) rfl (fun c45 => ?_) (fun c45 => ?_)
                · replace hz24 := of_bif_t hz24 c45
                  refine awp_seq ?_
                  refine awp_go hmix ?_
                  refine go_run' ttok 1 rfl ?_
                  refine go_nil nd ?_
                  refine then_norm ?_
                  refine awp_ret ?_
                  refine block_ret ?_
                  refine then_ret ?_
                  obtain ⟨t10, hn46, hq⟩ := of_mapr' hz24
                  subst hq
                  have hq : t10 = _ := hk25
                  subst hq
                  refine then_ret ?_
                  refine block_ret ?_
                  obtain ⟨t11, hn47, hq⟩ := of_mapl' hn46
                  subst hq
                  have hq := of_inl h
                  replace hq := of_some hq
                  subst hq
                  refine then_ret ?_
                  have e48 := of_some hn47
                  subst e48
                  refine ret_ret ?_
                  refine fin0 ttok rfl rfl ?_
                  exact (wkP_refl _ rfl)
                · replace hz24 := of_bif_f hz24 c45
                  refine awp_skip ?_
                  refine block_norm ?_
                  refine then_norm ?_
                  refine awp_go hmix ?_
                  refine go_run' ttok 3 rfl ?_
                  refine go_nil nd ?_
                  have e49 := of_some hz24
                  subst e49
                  refine then_norm ⟨rfl, ((W64 (i1 + 1)), rv.2), [(35, some 35)], ⟨rfl, rfl, rfl, rfl, rfl, ⟨wkP_id _ rfl, trivial⟩, ⟨⟨_, rfl, rfl, rfl, .inl ⟨rfl, nr_one rfl⟩⟩, trivial⟩⟩, hk25⟩
            · replace hz24 := of_bif_f hz24 c40
              refine awp_seq ?_
              refine awp_go hmix ?_
              refine go_run' ttok 2 rfl ?_
              refine go_nil nd ?_
              refine then_norm ?_
              refine awp_cond (b := (e2.Kind == 2)) rfl (fun c50 => ?_) (fun c50 => ?_)
              · replace hz24 := of_bif_t hz24 c50
                refine awp_go hmix ?_
                refine go_run' ttok 4 rfl ?_
                refine go_eqlS rv.1.T e2.T rfl rfl rfl rfl rfl ?_
                refine go_run' ttok 1 rfl ?_
                refine go_nil nd ?_
                refine block_norm ?_
                refine then_norm ?_
                refine awp_seq ?_
                refine awp_go hmix ?_
                refine go_run' ttok 3 rfl ?_
                refine go_gcase rfl rfl rfl (fun g51 => ?_) (fun g51 => ?_)
                · rw [g51]
                  replace hz24 := of_bif_t hz24 g51
                  refine go_run' ttok 4 rfl ?_
                  refine go_nil nd ?_
                  refine then_norm ?_
                  refine awp_cond rfl (fun tt0 => ?_) (fun h => by cases h)
                  clear tt0
                  refine awp_seq ?_
                  refine awp_go hmix ?_
                  refine go_run' ttok 1 rfl ?_
                  refine go_nil nd ?_
                  refine then_norm ?_
                  refine awp_ret ?_
                  refine block_ret ?_
                  refine then_ret ?_
                  obtain ⟨t12, hn52, hq⟩ := of_mapr' hz24
                  subst hq
                  have hq : t12 = _ := hk25
                  subst hq
                  refine then_ret ?_
                  refine block_ret ?_
                  obtain ⟨t13, hn53, hq⟩ := of_mapl' hn52
                  subst hq
                  have hq := of_inl h
                  replace hq := of_some hq
                  subst hq
                  refine then_ret ?_
                  have e54 := of_some hn53
                  subst e54
                  refine ret_ret ?_
                  refine fin0 ttok rfl rfl ?_
                  exact (wkP_refl _ rfl)
                · rw [g51]
                  replace hz24 := of_bif_f hz24 g51
                  refine go_run' ttok 1 rfl ?_
                  refine go_callM (I (wire_Reader__Err_g rv.2)) [] [(35, some ⟨81, 3, [(.agg [(S rv.2.s), (I rv.2.at_), (I rv.2.e)])]⟩)] [(1000, some 35)] [(35, some 1000)] fn34 (wire_Reader__Err_w rv.2 _ rfl) rfl rfl rfl rfl rfl trivial ⟨⟨rfl, rfl, rfl⟩, trivial⟩ rfl rfl ⟨⟨_, rfl, rfl, rfl, .inl ⟨rfl, nr_one rfl⟩⟩, trivial⟩ rfl rfl ⟨⟨_, rfl, rfl, rfl, .inl ⟨rfl, nr_one rfl⟩⟩, trivial⟩ (wkP_refl _ rfl) rfl (fun h => absurd rfl h) rfl rfl rfl ?_
                  refine go_run' ttok 2 rfl ?_
                  refine go_nil nd ?_
                  refine then_norm ?_
                  refine awp_cond (b := ((wire_Reader__Err_g rv.2) != 0)) rfl (fun c55 => ?_) (fun c55 => ?_)
                  · replace hz24 := of_bif_t hz24 c55
                    refine awp_seq ?_
                    refine awp_go hmix ?_
                    refine go_run' ttok 1 rfl ?_
                    refine go_nil nd ?_
                    refine then_norm ?_
                    refine awp_ret ?_
                    refine block_ret ?_
                    refine then_ret ?_
                    obtain ⟨t14, hn56, hq⟩ := of_mapr' hz24
                    subst hq
                    have hq : t14 = _ := hk25
                    subst hq
                    refine then_ret ?_
                    refine block_ret ?_
                    obtain ⟨t15, hn57, hq⟩ := of_mapl' hn56
                    subst hq
                    have hq := of_inl h
                    replace hq := of_some hq
                    subst hq
                    refine then_ret ?_
                    have e58 := of_some hn57
                    subst e58
                    refine ret_ret ?_
                    refine fin0 ttok rfl rfl ?_
                    exact (wkP_refl _ rfl)
                  · replace hz24 := of_bif_f hz24 c55
                    refine awp_skip ?_
                    refine block_norm ?_
                    refine then_norm ?_
                    refine awp_go hmix ?_
                    refine go_run' ttok 3 rfl ?_
                    refine go_nil nd ?_
                    have e59 := of_some hz24
                    subst e59
                    refine then_norm ⟨rfl, ((W64 (i1 + 1)), rv.2), [(35, some 35)], ⟨rfl, rfl, rfl, rfl, rfl, ⟨wkP_id _ rfl, trivial⟩, ⟨⟨_, rfl, rfl, rfl, .inl ⟨rfl, nr_one rfl⟩⟩, trivial⟩⟩, hk25⟩
              · replace hz24 := of_bif_f hz24 c50
                refine awp_go hmix ?_
                refine go_run' ttok 4 rfl ?_
                obtain ⟨sv, hv60, hz24⟩ := of_obind hz24
                refine go_call fn39 (r05_Same_w rv.1.L e2.L sv hv60) rfl rfl rfl rfl rfl rfl rfl ?_
                refine go_run' ttok 1 rfl ?_
                refine go_nil nd ?_
                refine block_norm ?_
                refine then_norm ?_
                refine awp_seq ?_
                refine awp_go hmix ?_
                refine go_run' ttok 3 rfl ?_
                refine go_gcase rfl rfl rfl (fun g61 => ?_) (fun g61 => ?_)
                · rw [g61]
                  replace hz24 := of_bif_t hz24 g61
                  refine go_run' ttok 4 rfl ?_
                  refine go_nil nd ?_
                  refine then_norm ?_
                  refine awp_cond rfl (fun tt0 => ?_) (fun h => by cases h)
                  clear tt0
                  refine awp_seq ?_
                  refine awp_go hmix ?_
                  refine go_run' ttok 1 rfl ?_
                  refine go_nil nd ?_
                  refine then_norm ?_
                  refine awp_ret ?_
                  refine block_ret ?_
                  refine then_ret ?_
                  obtain ⟨t16, hn62, hq⟩ := of_mapr' hz24
                  subst hq
                  have hq : t16 = _ := hk25
                  subst hq
                  refine then_ret ?_
                  refine block_ret ?_
                  obtain ⟨t17, hn63, hq⟩ := of_mapl' hn62
                  subst hq
                  have hq := of_inl h
                  replace hq := of_some hq
                  subst hq
                  refine then_ret ?_
                  have e64 := of_some hn63
                  subst e64
                  refine ret_ret ?_
                  refine fin0 ttok rfl rfl ?_
                  exact (wkP_refl _ rfl)
                · rw [g61]
                  replace hz24 := of_bif_f hz24 g61
                  refine go_run' ttok 1 rfl ?_
                  refine go_callM (I (wire_Reader__Err_g rv.2)) [] [(35, some ⟨81, 3, [(.agg [(S rv.2.s), (I rv.2.at_), (I rv.2.e)])]⟩)] [(1000, some 35)] [(35, some 1000)] fn34 (wire_Reader__Err_w rv.2 _ rfl) rfl rfl rfl rfl rfl trivial ⟨⟨rfl, rfl, rfl⟩, trivial⟩ rfl rfl ⟨⟨_, rfl, rfl, rfl, .inl ⟨rfl, nr_one rfl⟩⟩, trivial⟩ rfl rfl ⟨⟨_, rfl, rfl, rfl, .inl ⟨rfl, nr_one rfl⟩⟩, trivial⟩ (wkP_refl _ rfl) rfl (fun h => absurd rfl h) rfl rfl rfl ?_
                  refine go_run' ttok 2 rfl ?_
                  refine go_nil nd ?_
                  refine then_norm ?_
                  refine awp_cond (b := ((wire_Reader__Err_g rv.2) != 0)) rfl (fun c65 => ?_) (fun c65 => ?_)
                  · replace hz24 := of_bif_t hz24 c65
                    refine awp_seq ?_
                    refine awp_go hmix ?_
                    refine go_run' ttok 1 rfl ?_
                    refine go_nil nd ?_
                    refine then_norm ?_
                    refine awp_ret ?_
                    refine block_ret ?_
                    refine then_ret ?_
                    obtain ⟨t18, hn66, hq⟩ := of_mapr' hz24
                    subst hq
                    have hq : t18 = _ := hk25
                    subst hq
                    refine then_ret ?_
                    refine block_ret ?_
                    obtain ⟨t19, hn67, hq⟩ := of_mapl' hn66
                    subst hq
                    have hq := of_inl h
                    replace hq := of_some hq
                    subst hq
                    refine then_ret ?_
                    have e68 := of_some hn67
                    subst e68
                    refine ret_ret ?_
                    refine fin0 ttok rfl rfl ?_
                    exact (wkP_refl _ rfl)
                  · replace hz24 := of_bif_f hz24 c65
                    refine awp_skip ?_
                    refine block_norm ?_
                    refine then_norm ?_
                    refine awp_go hmix ?_
                    refine go_run' ttok 3 rfl ?_
                    refine go_nil nd ?_
                    have e69 := of_some hz24
                    subst e69
                    refine then_norm ⟨rfl, ((W64 (i1 + 1)), rv.2), [(35, some 35)], ⟨rfl, rfl, rfl, rfl, rfl, ⟨wkP_id _ rfl, trivial⟩, ⟨⟨_, rfl, rfl, rfl, .inl ⟨rfl, nr_one rfl⟩⟩, trivial⟩⟩, hk25⟩
        · replace hz24 := of_bif_f hz24 c26
          refine awp_exit ?_
          refine then_exit ?_
          obtain ⟨t20, hn70, hq⟩ := of_mapr' hz24
          subst hq
          have hq : t20 = _ := hk25
          subst hq
          refine then_exit ?_
          refine block_here ?_
          have e71 := of_some hn70
          refine then_norm ⟨rfl, vv, [(35, some 35)], ⟨rfl, rfl, rfl, rfl, rfl, trivial, ⟨⟨_, rfl, rfl, rfl, .inl ⟨rfl, nr_one rfl⟩⟩, trivial⟩⟩, e71⟩
      · intro w1 hw23
        subst hw23
        replace h := of_inr h
        refine awp_seq ?_
        refine awp_go hmix ?_
        refine go_run' ttok 1 rfl ?_
        refine go_callM (I (wire_Reader__End_g w1)) [] [(35, some ⟨81, 3, [(.agg [(S w1.s), (I w1.at_), (I w1.e)])]⟩)] [(1000, some 35)] [(35, some 1000)] fn23 (wire_Reader__End_w w1 _ rfl) rfl rfl rfl rfl rfl trivial ⟨⟨rfl, rfl, rfl⟩, trivial⟩ rfl rfl ⟨⟨_, rfl, rfl, rfl, .inl ⟨rfl, nr_one rfl⟩⟩, trivial⟩ rfl rfl ⟨⟨_, rfl, rfl, rfl, .inl ⟨rfl, nr_one rfl⟩⟩, trivial⟩ (wkP_refl _ rfl) rfl (fun h => absurd rfl h) rfl rfl rfl ?_
        refine go_run' ttok 2 rfl ?_
        refine go_gcase rfl rfl rfl (fun g72 => ?_) (fun g72 => ?_)
        · rw [g72]
          replace h := of_bif_t h g72
          refine go_run' ttok 1 rfl ?_
          refine go_callM (I (wire_Reader__Left_g w1)) [] [(35, some ⟨81, 3, [(.agg [(S w1.s), (I w1.at_), (I w1.e)])]⟩)] [(1000, some 35)] [(35, some 1000)] fn24 (wire_Reader__Left_w w1 _ rfl) rfl rfl rfl rfl rfl trivial ⟨⟨rfl, rfl, rfl⟩, trivial⟩ rfl rfl ⟨⟨_, rfl, rfl, rfl, .inl ⟨rfl, nr_one rfl⟩⟩, trivial⟩ rfl rfl ⟨⟨_, rfl, rfl, rfl, .inl ⟨rfl, nr_one rfl⟩⟩, trivial⟩ (wkP_refl _ rfl) rfl (fun h => absurd rfl h) rfl rfl rfl ?_
          refine go_run' ttok 3 rfl ?_
          refine go_gcase rfl rfl rfl (fun g73 => ?_) (fun g73 => ?_)
          · rw [g73]
            replace h := of_bif_t h g73
            obtain ⟨av2, hv74, h⟩ := of_obind h
            refine go_call fn16 (l05_awake_w av2 hv74) rfl rfl rfl rfl rfl rfl rfl ?_
            refine go_run' ttok 2 rfl ?_
            refine go_nil nd ?_
            refine then_norm ?_
            refine awp_ret ?_
            have e75 := of_some h
            subst e75
            refine ret_ret ?_
            refine fin0 ttok rfl rfl ?_
            exact (wkP_refl _ rfl)
          · rw [g73]
            replace h := of_bif_f h g73
            refine go_run' ttok 3 rfl ?_
            refine go_nil nd ?_
            refine then_norm ?_
            refine awp_ret ?_
            have e76 := of_some h
            subst e76
            refine ret_ret ?_
            refine fin0 ttok rfl rfl ?_
            exact (wkP_refl _ rfl)
        · rw [g72]
          replace h := of_bif_f h g72
          refine go_run' ttok 8 rfl ?_
          refine go_nil nd ?_
          refine then_norm ?_
          refine awp_ret ?_
          have e77 := of_some h
          subst e77
          refine ret_ret ?_
          refine fin0 ttok rfl rfl ?_
          exact (wkP_refl _ rfl)

noncomputable def l05_WireOne_s1 (s : ByteArray) (l : (List Tsawmilllaw05_Op)) (vat1 : Int) (i : Int) (vv : Twire_Reader) : Option ((Int × Int × Twire_Reader) ⊕ (Bool ⊕ (Int × Twire_Reader))) :=
  (bif (decide (i < ((l.length : Nat) : Int))) then (Option.bind (getI l i) (fun e => (Option.bind (l05_read_g vv e) (fun rv => (bif ((wire_Reader__Err_g rv.2) != 0) then some (Sum.inr (Sum.inr (vat1, rv.2))) else (bif (decide ((W64 (((s.size : Nat) : Int) - (wire_Reader__Left_g rv.2))) ≤ vat1)) then some (Sum.inr (Sum.inl false)) else (bif (decide (((s.size : Nat) : Int) < (W64 (((s.size : Nat) : Int) - (wire_Reader__Left_g rv.2))))) then some (Sum.inr (Sum.inl false)) else (Option.bind (l05_write_g rv.1) (fun wv => (Option.bind (ssubO s vat1 (W64 (((s.size : Nat) : Int) - (wire_Reader__Left_g rv.2)))) (fun t5 => (bif (!(bEq wv t5)) then some (Sum.inr (Sum.inl false)) else some (Sum.inl ((W64 (((s.size : Nat) : Int) - (wire_Reader__Left_g rv.2))), (W64 (i + 1)), rv.2)))))))))))))) else some (Sum.inr (Sum.inr (vat1, vv))))
/-- sawmill/sawmilllaw05.WireOne -/
noncomputable def l05_WireOne_g (s : ByteArray) (l : (List Tsawmilllaw05_Op)) : Option Bool :=
  (bif (decide (3000 < ((s.size : Nat) : Int))) then (Option.bind l05_awake_g (fun av => some av)) else (bif (decide (60 < ((l.length : Nat) : Int))) then (Option.bind l05_awake_g (fun av1 => some av1)) else (letB (wire_NewReader_g s) (fun nv => (Option.bind ((loopO (fun q => l05_WireOne_s1 s l q.1 q.2.1 q.2.2) (0, 0, nv)) : Option (Bool ⊕ (Int × Twire_Reader))) (Sum.elim (fun q => some q) (fun w2 => (bif ((wire_Reader__Left_g w2.2) == (W64 (((s.size : Nat) : Int) - w2.1))) then (Option.bind l05_awake_g (fun av2 => some av2)) else some false))))))))
theorem l05_WireOne_w (s : ByteArray) (l : (List Tsawmilllaw05_Op)) (r : Bool) (h : l05_WireOne_g s l = some r) : Holds Try.prog 8 [(S s), ((encL encTsawmilllaw05_Op) l)] [] (B r) [] := by
  unfold l05_WireOne_g at h
  refine holds_fn Try.func8 rfl Try.ntmps8 rfl rfl rfl ?_
  refine awp_seq ?_
  refine awp_go hmix ?_
  refine go_run' ttok 1 rfl ?_
  refine go_nil nd ?_
  refine then_norm ?_
  refine awp_seq ?_
  refine awp_seq ?_
  refine awp_go hmix ?_
  refine go_run' ttok 4 rfl ?_
  refine go_gcase rfl rfl rfl (fun g1 => ?_) (fun g1 => ?_)
  · rw [g1]
    replace h := of_bif_t h g1
    refine go_run' ttok 4 rfl ?_
    refine go_nil nd ?_
    refine then_norm ?_
    refine awp_cond rfl (fun tt0 => ?_) (fun h => by cases h)
    clear tt0
    refine awp_seq ?_
    refine awp_go hmix ?_
    obtain ⟨av, hv2, h⟩ := of_obind h
    refine go_call fn16 (l05_awake_w av hv2) rfl rfl rfl rfl rfl rfl rfl ?_
    refine go_run' ttok 1 rfl ?_
    refine go_nil nd ?_
    refine then_norm ?_
    refine awp_ret ?_
    refine then_ret ?_
    have e3 := of_some h
    subst e3
    refine ret_ret ?_
    refine fin0 ttok rfl rfl ?_
    exact (wkP_refl _ rfl)
  · rw [g1]
    replace h := of_bif_f h g1
    refine go_run' ttok 1 rfl ?_
    refine go_lenT encTsawmilllaw05_Op l ttok rfl rfl rfl rfl rfl rfl ?_
    refine go_run' ttok 2 rfl ?_
    refine go_nil nd ?_
    refine then_norm ?_
    refine awp_cond (b := (decide (60 < ((l.length : Nat) : Int)))) rfl (fun c4 => ?_) (fun c4 => ?_)
    · replace h := of_bif_t h c4
      refine awp_seq ?_
      refine awp_go hmix ?_
      obtain ⟨av1, hv5, h⟩ := of_obind h
      refine go_call fn16 (l05_awake_w av1 hv5) rfl rfl rfl rfl rfl rfl rfl ?_
      refine go_run' ttok 1 rfl ?_
      refine go_nil nd ?_
      refine then_norm ?_
      refine awp_ret ?_
      refine then_ret ?_
      have e6 := of_some h
      subst e6
      refine ret_ret ?_
      refine fin0 ttok rfl rfl ?_
      exact (wkP_refl _ rfl)
    · replace h := of_bif_f h c4
      refine awp_skip ?_
      refine then_norm ?_
      refine awp_seq ?_
      refine awp_go hmix ?_
      refine go_run' ttok 1 rfl ?_
      obtain ⟨nv, hv7, h⟩ := of_let h
      refine go_callM (.ref 20 0 0) [] [(20, some ⟨81, 3, [(.agg [(S nv.s), (I nv.at_), (I nv.e)])]⟩)] [] [(20, some 999)] fn21 (wire_NewReader_w s nv hv7) rfl rfl rfl rfl rfl trivial ⟨(wkP_refl _ rfl), trivial⟩ rfl rfl trivial rfl rfl ⟨⟨_, rfl, rfl, rfl, .inl ⟨rfl, nr_one rfl⟩⟩, trivial⟩ ⟨rfl, rfl, rfl⟩ rfl (fun h => absurd rfl h) rfl rfl rfl ?_
      refine go_run' ttok 1 rfl ?_
      refine go_nil nd ?_
      refine then_norm ?_
      refine awp_seq ?_
      refine awp_go hmix ?_
      refine go_run' ttok 1 rfl ?_
      refine go_nil nd ?_
      refine then_norm ?_
      obtain ⟨y, hx8, h⟩ := of_obind h
      refine awp_seqJ (X := (Int × Twire_Reader)) [0, 5] [] (fun w1 => [(6, (I w1.1))]) (fun w1 => [(20, some ⟨81, 3, [(.agg [(S w1.2.s), (I w1.2.at_), (I w1.2.e)])]⟩)]) (fun w1 => Sum.inr w1 = y) rfl rfl ?_ ?_
      · skip
        refine awp_seq ?_
        refine awp_go hmix ?_
        refine go_run' ttok 1 rfl ?_
        refine go_nil nd ?_
        refine then_norm ?_
        refine awp_block ?_
        refine awp_loopD (X := (Int × Int × Twire_Reader)) (Y := (Bool ⊕ (Int × Twire_Reader))) [0, 1, 5] [] (fun q => [(6, (I q.1)), (7, (I q.2.1))]) (fun q => [(20, some ⟨81, 3, [(.agg [(S q.2.2.s), (I q.2.2.at_), (I q.2.2.e)])]⟩)]) (fun q => l05_WireOne_s1 s l q.1 q.2.1 q.2.2) (0, 0, nv) [(20, some 20)] hx8 ⟨rfl, rfl, rfl, rfl, rfl, ⟨wkP_id _ rfl, wkP_id _ rfl, trivial⟩, ⟨⟨_, rfl, rfl, rfl, .inl ⟨rfl, nr_one rfl⟩⟩, trivial⟩⟩ (fun x vR vz hz10 hk11 => ?_)
        obtain ⟨vat1, i, vv⟩ := x
        change l05_WireOne_s1 s l vat1 i vv = _ at hz10
        unfold l05_WireOne_s1 at hz10
        refine awp_seq ?_
        refine awp_seq ?_
        refine awp_go hmix ?_
        refine go_run' ttok 2 rfl ?_
        refine go_lenT encTsawmilllaw05_Op l ttok rfl rfl rfl rfl rfl rfl ?_
        refine go_run' ttok 1 rfl ?_
        refine go_nil nd ?_
        refine then_norm ?_
        refine awp_cond (b := (decide (i < ((l.length : Nat) : Int)))) rfl (fun c12 => ?_) (fun c12 => ?_)
        · replace hz10 := of_bif_t hz10 c12
          refine awp_skip ?_
          refine then_norm ?_
          refine awp_seq ?_
          refine awp_block ?_
          refine awp_seq ?_
          refine awp_go hmix ?_
          refine go_run' ttok 3 rfl ?_
          obtain ⟨e, hv13, hz10⟩ := of_obind hz10
          refine go_indexT encTsawmilllaw05_Op l i e hv13 ttok rfl rfl rfl rfl rfl rfl rfl rfl rfl ?_
          refine go_run' ttok 1 rfl ?_
          obtain ⟨rv, hv14, hz10⟩ := of_obind hz10
          refine go_callM (.agg [(U8 rv.1.Kind), (U64 rv.1.N), (I rv.1.I_), (S rv.1.T), (encL I rv.1.L)]) [] [(20, some ⟨81, 3, [(.agg [(S rv.2.s), (I rv.2.at_), (I rv.2.e)])]⟩)] [(1000, some 20)] [(20, some 1000)] fn27 (l05_read_w vv e rv hv14) rfl rfl rfl rfl rfl trivial ⟨⟨rfl, rfl, rfl⟩, (wkP_refl _ rfl), trivial⟩ rfl rfl ⟨⟨_, rfl, rfl, rfl, .inl ⟨rfl, nr_one rfl⟩⟩, trivial⟩ rfl rfl ⟨⟨_, rfl, rfl, rfl, .inl ⟨rfl, nr_one rfl⟩⟩, trivial⟩ (wkP_refl _ rfl) rfl (fun h => absurd rfl h) rfl rfl rfl ?_
          refine go_run' ttok 2 rfl ?_
          refine go_nil nd ?_
          refine then_norm ?_
          refine awp_seq ?_
          refine awp_seq ?_
          refine awp_go hmix ?_
          refine go_run' ttok 1 rfl ?_
          refine go_callM (I (wire_Reader__Err_g rv.2)) [] [(20, some ⟨81, 3, [(.agg [(S rv.2.s), (I rv.2.at_), (I rv.2.e)])]⟩)] [(1000, some 20)] [(20, some 1000)] fn34 (wire_Reader__Err_w rv.2 _ rfl) rfl rfl rfl rfl rfl trivial ⟨⟨rfl, rfl, rfl⟩, trivial⟩ rfl rfl ⟨⟨_, rfl, rfl, rfl, .inl ⟨rfl, nr_one rfl⟩⟩, trivial⟩ rfl rfl ⟨⟨_, rfl, rfl, rfl, .inl ⟨rfl, nr_one rfl⟩⟩, trivial⟩ (wkP_refl _ rfl) rfl (fun h => absurd rfl h) rfl rfl rfl ?_
          refine go_run' ttok 1 rfl ?_
          refine go_nil nd ?_
          refine then_norm ?_
          refine awp_cond (b := ((wire_Reader__Err_g rv.2) != 0)) rfl (fun c15 => ?_) (fun c15 => ?_)
          · replace hz10 := of_bif_t hz10 c15
            refine awp_exit ?_
            refine then_exit ?_
            refine block_far rfl ?_
            refine then_exit ?_
            obtain ⟨t, hn16, hq⟩ := of_mapr' hz10
            subst hq
            have hq : t = _ := hk11
            subst hq
            refine then_exit ?_
            refine block_here ?_
            have e17 := of_some hn16
            refine then_norm ⟨rfl, (vat1, rv.2), [(20, some 20)], ⟨rfl, rfl, rfl, rfl, rfl, ⟨wkP_id _ rfl, trivial⟩, ⟨⟨_, rfl, rfl, rfl, .inl ⟨rfl, nr_one rfl⟩⟩, trivial⟩⟩, e17⟩
          · replace hz10 := of_bif_f hz10 c15
            refine awp_skip ?_
            refine then_norm ?_
            refine awp_seq ?_
            refine awp_go hmix ?_
            refine go_run' ttok 3 rfl ?_
            refine go_callM (I (wire_Reader__Left_g rv.2)) [] [(20, some ⟨81, 3, [(.agg [(S rv.2.s), (I rv.2.at_), (I rv.2.e)])]⟩)] [(1000, some 20)] [(20, some 1000)] fn24 (wire_Reader__Left_w rv.2 _ rfl) rfl rfl rfl rfl rfl trivial ⟨⟨rfl, rfl, rfl⟩, trivial⟩ rfl rfl ⟨⟨_, rfl, rfl, rfl, .inl ⟨rfl, nr_one rfl⟩⟩, trivial⟩ rfl rfl ⟨⟨_, rfl, rfl, rfl, .inl ⟨rfl, nr_one rfl⟩⟩, trivial⟩ (wkP_refl _ rfl) rfl (fun h => absurd rfl h) rfl rfl rfl ?_
            refine go_run' ttok 2 rfl ?_
            refine go_nil nd ?_
            refine then_norm ?_
            refine awp_seq ?_
            refine awp_seq ?_
            refine awp_go hmix ?_
            refine go_run' ttok 4 rfl ?_
            refine go_gcase rfl rfl rfl (fun g18 => ?_) (fun g18 => ?_)
            · rw [g18]
              replace hz10 := of_bif_t hz10 g18
              refine go_run' ttok 14 rfl ?_
              refine go_nil (fun _ => by kernel_rfl) ?_
              refine then_norm ?_
              refine awp_cond rfl (fun tt0 => ?_) (fun h => by cases h)
              clear tt0
              refine awp_seq ?_
              refine awp_go hmix ?_
              refine go_run' ttok 1 rfl ?_
              refine go_nil nd ?_
              refine then_norm ?_
              refine awp_ret ?_
              refine then_ret ?_
              refine block_ret ?_
              refine then_ret ?_
              obtain ⟨t1, hn19, hq⟩ := of_mapr' hz10
              subst hq
              have hq : t1 = _ := hk11
              subst hq
              refine then_ret ?_
              refine block_ret ?_
              obtain ⟨t2, hn20, hq⟩ := of_mapl' hn19
              subst hq
              have hq := of_inl h
              replace hq := of_some hq
              subst hq
              refine then_ret ?_
              have e21 := of_some hn20
              subst e21
              refine ret_ret ?_
              refine fin0 ttok rfl rfl ?_
              exact (wkP_refl _ rfl)
            · rw [g18]
              replace hz10 := of_bif_f hz10 g18
              refine go_run' ttok 6 rfl ?_
              refine go_gcase rfl rfl rfl (fun g22 => ?_) (fun g22 => ?_)
              · rw [g22]
                replace hz10 := of_bif_t hz10 g22
                refine go_run' ttok 8 rfl ?_
                refine go_nil (fun _ => by kernel_rfl) ?_
                refine then_norm ?_
                refine awp_cond rfl (fun tt0 => ?_) (fun h => by cases h)
                clear tt0
                refine awp_seq ?_
                refine awp_go hmix ?_
                refine go_run' ttok 1 rfl ?_
                refine go_nil nd ?_
                refine then_norm ?_
                refine awp_ret ?_
                refine then_ret ?_
                refine block_ret ?_
                refine then_ret ?_
                obtain ⟨t3, hn23, hq⟩ := of_mapr' hz10
                subst hq
                have hq : t3 = _ := hk11
                subst hq
                refine then_ret ?_
                refine block_ret ?_
                obtain ⟨t4, hn24, hq⟩ := of_mapl' hn23
                subst hq
                have hq := of_inl h
                replace hq := of_some hq
                subst hq
                refine then_ret ?_
                have e25 := of_some hn24
                subst e25
                refine ret_ret ?_
                refine fin0 ttok rfl rfl ?_
                exact (wkP_refl _ rfl)
              · rw [g22]
                replace hz10 := of_bif_f hz10 g22
                refine go_run' ttok 1 rfl ?_
                obtain ⟨wv, hv26, hz10⟩ := of_obind hz10
                refine go_call fn37 (l05_write_w rv.1 wv hv26) rfl rfl rfl rfl rfl rfl rfl ?_
                refine go_run' ttok 3 rfl ?_
                obtain ⟨t5, hv27, hz10⟩ := of_obind hz10
                refine go_sliceS s t5 vat1 (W64 (((s.size : Nat) : Int) - (wire_Reader__Left_g rv.2))) hv27 ttok rfl rfl rfl rfl rfl ⟨_, rfl⟩ ⟨_, rfl⟩ rfl ?_
                refine go_neqS wv t5 rfl rfl rfl rfl rfl ?_
                refine go_run' ttok 1 rfl ?_
                refine go_nil (fun _ => by kernel_rfl) ?_
                refine then_norm ?_
                refine awp_cond (b := (!(bEq wv t5))) rfl (fun c28 => ?_) (fun c28 => ?_)
                · replace hz10 := of_bif_t hz10 c28
                  refine awp_seq ?_
                  refine awp_go hmix ?_
                  refine go_run' ttok 1 rfl ?_
                  refine go_nil nd ?_
                  refine then_norm ?_
                  refine awp_ret ?_
                  refine then_ret ?_
                  refine block_ret ?_
                  refine then_ret ?_
                  obtain ⟨t6, hn29, hq⟩ := of_mapr' hz10
                  subst hq
                  have hq : t6 = _ := hk11
                  subst hq
                  refine then_ret ?_
                  refine block_ret ?_
                  obtain ⟨t7, hn30, hq⟩ := of_mapl' hn29
                  subst hq
                  have hq := of_inl h
                  replace hq := of_some hq
                  subst hq
                  refine then_ret ?_
                  have e31 := of_some hn30
                  subst e31
                  refine ret_ret ?_
                  refine fin0 ttok rfl rfl ?_
                  exact (wkP_refl _ rfl)
                · replace hz10 := of_bif_f hz10 c28
                  refine awp_skip ?_
                  refine then_norm ?_
                  refine awp_go hmix ?_
                  refine go_run' ttok 2 rfl ?_
                  refine go_nil nd ?_
                  refine block_norm ?_
                  refine then_norm ?_
                  refine awp_go hmix ?_
                  refine go_run' ttok 3 rfl ?_
                  refine go_nil nd ?_
                  have e32 := of_some hz10
                  subst e32
                  refine then_norm ⟨rfl, ((W64 (((s.size : Nat) : Int) - (wire_Reader__Left_g rv.2))), (W64 (i + 1)), rv.2), [(20, some 20)], ⟨rfl, rfl, rfl, rfl, rfl, ⟨wkP_id _ rfl, wkP_id _ rfl, trivial⟩, ⟨⟨_, rfl, rfl, rfl, .inl ⟨rfl, nr_one rfl⟩⟩, trivial⟩⟩, hk11⟩
        · replace hz10 := of_bif_f hz10 c12
          refine awp_exit ?_
          refine then_exit ?_
          obtain ⟨t8, hn33, hq⟩ := of_mapr' hz10
          subst hq
          have hq : t8 = _ := hk11
          subst hq
          refine then_exit ?_
          refine block_here ?_
          have e34 := of_some hn33
          refine then_norm ⟨rfl, (vat1, vv), [(20, some 20)], ⟨rfl, rfl, rfl, rfl, rfl, ⟨wkP_id _ rfl, trivial⟩, ⟨⟨_, rfl, rfl, rfl, .inl ⟨rfl, nr_one rfl⟩⟩, trivial⟩⟩, e34⟩
      · intro w1 hw9
        subst hw9
        replace h := of_inr h
        obtain ⟨vat, w⟩ := w1
        refine awp_seq ?_
        refine awp_go hmix ?_
        refine go_run' ttok 1 rfl ?_
        refine go_callM (I (wire_Reader__Left_g w)) [] [(20, some ⟨81, 3, [(.agg [(S w.s), (I w.at_), (I w.e)])]⟩)] [(1000, some 20)] [(20, some 1000)] fn24 (wire_Reader__Left_w w _ rfl) rfl rfl rfl rfl rfl trivial ⟨⟨rfl, rfl, rfl⟩, trivial⟩ rfl rfl ⟨⟨_, rfl, rfl, rfl, .inl ⟨rfl, nr_one rfl⟩⟩, trivial⟩ rfl rfl ⟨⟨_, rfl, rfl, rfl, .inl ⟨rfl, nr_one rfl⟩⟩, trivial⟩ (wkP_refl _ rfl) rfl (fun h => absurd rfl h) rfl rfl rfl ?_
        refine go_run' ttok 6 rfl ?_
        refine go_gcase rfl rfl rfl (fun g35 => ?_) (fun g35 => ?_)
        · rw [g35]
          replace h := of_bif_t h g35
          obtain ⟨av2, hv36, h⟩ := of_obind h
          refine go_call fn16 (l05_awake_w av2 hv36) rfl rfl rfl rfl rfl rfl rfl ?_
          refine go_run' ttok 2 rfl ?_
          refine go_nil nd ?_
          refine then_norm ?_
          refine awp_ret ?_
          have e37 := of_some h
          subst e37
          refine ret_ret ?_
          refine fin0 ttok rfl rfl ?_
          exact (wkP_refl _ rfl)
        · rw [g35]
          replace h := of_bif_f h g35
          refine go_run' ttok 3 rfl ?_
          refine go_nil nd ?_
          refine then_norm ?_
          refine awp_ret ?_
          have e38 := of_some h
          subst e38
          refine ret_ret ?_
          refine fin0 ttok rfl rfl ?_
          exact (wkP_refl _ rfl)

/-- sawmill/sawmilllaw05.zero -/
noncomputable def l05_zero_g (f : Tsawmilllaw05_Field) : Bool :=
  (bif (f.N == 0) then (bif (f.I_ == 0) then (bif (bEq f.T (⟨#[]⟩ : ByteArray)) then (((f.L.length : Nat) : Int) == 0) else false) else false) else false)
theorem l05_zero_w (f : Tsawmilllaw05_Field) (r : Bool) (h : l05_zero_g f = r) : Holds Try.prog 40 [(encTsawmilllaw05_Field f)] [] (B r) [] := by
  unfold l05_zero_g at h
  refine holds_fn Try.func40 rfl Try.ntmps40 rfl rfl rfl ?_
  refine awp_seq ?_
  refine awp_go hmix ?_
  refine go_run' ttok 2 rfl ?_
  refine go_nil nd ?_
  refine then_norm ?_
  refine awp_seq ?_
  refine awp_go hmix ?_
  refine go_run' ttok 4 rfl ?_
  refine go_gcase rfl rfl rfl (fun g1 => ?_) (fun g1 => ?_)
  · rw [g1]
    replace h := of_bif_t h g1
    refine go_run' ttok 5 rfl ?_
    refine go_gcase rfl rfl rfl (fun g2 => ?_) (fun g2 => ?_)
    · rw [g2]
      replace h := of_bif_t h g2
      refine go_run' ttok 2 rfl ?_
      refine go_eqlS f.T (⟨#[]⟩ : ByteArray) rfl rfl rfl rfl rfl ?_
      refine go_run' ttok 2 rfl ?_
      refine go_gcase rfl rfl rfl (fun g3 => ?_) (fun g3 => ?_)
      · rw [g3]
        replace h := of_bif_t h g3
        refine go_run' ttok 2 rfl ?_
        refine go_lenT I f.L ttok rfl rfl rfl rfl rfl rfl ?_
        refine go_run' ttok 3 rfl ?_
        refine go_nil nd ?_
        refine then_norm ?_
        refine awp_ret ?_
        have e4 := h
        subst e4
        refine ret_ret ?_
        refine fin0 ttok rfl rfl ?_
        exact (wkP_refl _ rfl)
      · rw [g3]
        replace h := of_bif_f h g3
        refine go_run' ttok 6 rfl ?_
        refine go_nil nd ?_
        refine then_norm ?_
        refine awp_ret ?_
        have e5 := h
        subst e5
        refine ret_ret ?_
        refine fin0 ttok rfl rfl ?_
        exact (wkP_refl _ rfl)
    · rw [g2]
      replace h := of_bif_f h g2
      refine go_run' ttok 11 rfl ?_
      refine go_nil nd ?_
      refine then_norm ?_
      refine awp_ret ?_
      have e6 := h
      subst e6
      refine ret_ret ?_
      refine fin0 ttok rfl rfl ?_
      exact (wkP_refl _ rfl)
  · rw [g1]
    replace h := of_bif_f h g1
    refine go_run' ttok 16 rfl ?_
    refine go_nil nd ?_
    refine then_norm ?_
    refine awp_ret ?_
    have e7 := h
    subst e7
    refine ret_ret ?_
    refine fin0 ttok rfl rfl ?_
    exact (wkP_refl _ rfl)

noncomputable def l05_WireStops_s1 (l : (List Tsawmilllaw05_Op)) (i : Int) (vv : Twire_Reader) : Option ((Int × Twire_Reader) ⊕ (Bool ⊕ Unit)) :=
  (bif (decide (i < ((l.length : Nat) : Int))) then (Option.bind (getI l i) (fun e => (Option.bind (l05_read_g vv e) (fun rv => (bif ((wire_Reader__Err_g rv.2) != 0) then (bif (!(l05_zero_g rv.1)) then some (Sum.inr (Sum.inl false)) else (bif ((wire_Reader__Left_g rv.2) != (wire_Reader__Left_g vv)) then some (Sum.inr (Sum.inl false)) else (bif ((wire_Reader__End_g rv.2) != (wire_Reader__Err_g rv.2)) then some (Sum.inr (Sum.inl false)) else (bif ((wire_Reader__Err_g vv) != 0) then (bif ((wire_Reader__Err_g rv.2) != (wire_Reader__Err_g vv)) then some (Sum.inr (Sum.inl false)) else some (Sum.inl ((W64 (i + 1)), rv.2))) else some (Sum.inl ((W64 (i + 1)), rv.2)))))) else (bif ((wire_Reader__Err_g vv) != 0) then (bif ((wire_Reader__Err_g rv.2) != (wire_Reader__Err_g vv)) then some (Sum.inr (Sum.inl false)) else some (Sum.inl ((W64 (i + 1)), rv.2))) else some (Sum.inl ((W64 (i + 1)), rv.2)))))))) else some (Sum.inr (Sum.inr ())))
/-- sawmill/sawmilllaw05.WireStops -/
noncomputable def l05_WireStops_g (s : ByteArray) (l : (List Tsawmilllaw05_Op)) : Option Bool :=
  (bif (decide (3000 < ((s.size : Nat) : Int))) then (Option.bind l05_awake_g (fun av => some av)) else (bif (decide (60 < ((l.length : Nat) : Int))) then (Option.bind l05_awake_g (fun av1 => some av1)) else (letB (wire_NewReader_g s) (fun nv => (Option.bind ((loopO (fun q => l05_WireStops_s1 l q.1 q.2) (0, nv)) : Option (Bool ⊕ Unit)) (Sum.elim (fun q => some q) (fun _ => (Option.bind l05_awake_g (fun av2 => some av2)))))))))
theorem l05_WireStops_w (s : ByteArray) (l : (List Tsawmilllaw05_Op)) (r : Bool) (h : l05_WireStops_g s l = some r) : Holds Try.prog 9 [(S s), ((encL encTsawmilllaw05_Op) l)] [] (B r) [] := by
  unfold l05_WireStops_g at h
  refine holds_fn Try.func9 rfl Try.ntmps9 rfl rfl rfl ?_
  refine awp_seq ?_
  refine awp_go hmix ?_
  refine go_run' ttok 1 rfl ?_
  refine go_nil nd ?_
  refine then_norm ?_
  refine awp_seq ?_
  refine awp_seq ?_
  refine awp_go hmix ?_
  refine go_run' ttok 4 rfl ?_
  refine go_gcase rfl rfl rfl (fun g1 => ?_) (fun g1 => ?_)
  · rw [g1]
    replace h := of_bif_t h g1
    refine go_run' ttok 4 rfl ?_
    refine go_nil nd ?_
    refine then_norm ?_
    refine awp_cond rfl (fun tt0 => ?_) (fun h => by cases h)
    clear tt0
    refine awp_seq ?_
    refine awp_go hmix ?_
    obtain ⟨av, hv2, h⟩ := of_obind h
    refine go_call fn16 (l05_awake_w av hv2) rfl rfl rfl rfl rfl rfl rfl ?_
    refine go_run' ttok 1 rfl ?_
    refine go_nil nd ?_
    refine then_norm ?_
    refine awp_ret ?_
    refine then_ret ?_
    have e3 := of_some h
    subst e3
    refine ret_ret ?_
    refine fin0 ttok rfl rfl ?_
    exact (wkP_refl _ rfl)
  · rw [g1]
    replace h := of_bif_f h g1
    refine go_run' ttok 1 rfl ?_
    refine go_lenT encTsawmilllaw05_Op l ttok rfl rfl rfl rfl rfl rfl ?_
    refine go_run' ttok 2 rfl ?_
    refine go_nil nd ?_
    refine then_norm ?_
    refine awp_cond (b := (decide (60 < ((l.length : Nat) : Int)))) rfl (fun c4 => ?_) (fun c4 => ?_)
    · replace h := of_bif_t h c4
      refine awp_seq ?_
      refine awp_go hmix ?_
      obtain ⟨av1, hv5, h⟩ := of_obind h
      refine go_call fn16 (l05_awake_w av1 hv5) rfl rfl rfl rfl rfl rfl rfl ?_
      refine go_run' ttok 1 rfl ?_
      refine go_nil nd ?_
      refine then_norm ?_
      refine awp_ret ?_
      refine then_ret ?_
      have e6 := of_some h
      subst e6
      refine ret_ret ?_
      refine fin0 ttok rfl rfl ?_
      exact (wkP_refl _ rfl)
    · replace h := of_bif_f h c4
      refine awp_skip ?_
      refine then_norm ?_
      refine awp_seq ?_
      refine awp_go hmix ?_
      refine go_run' ttok 1 rfl ?_
      obtain ⟨nv, hv7, h⟩ := of_let h
      refine go_callM (.ref 21 0 0) [] [(21, some ⟨81, 3, [(.agg [(S nv.s), (I nv.at_), (I nv.e)])]⟩)] [] [(21, some 999)] fn21 (wire_NewReader_w s nv hv7) rfl rfl rfl rfl rfl trivial ⟨(wkP_refl _ rfl), trivial⟩ rfl rfl trivial rfl rfl ⟨⟨_, rfl, rfl, rfl, .inl ⟨rfl, nr_one rfl⟩⟩, trivial⟩ ⟨rfl, rfl, rfl⟩ rfl (fun h => absurd rfl h) rfl rfl rfl ?_
      refine go_run' ttok 1 rfl ?_
      refine go_nil nd ?_
      refine then_norm ?_
      obtain ⟨y, hx8, h⟩ := of_obind h
      refine awp_seqJ (X := Unit) [] [] (fun _ => []) (fun _ => []) (fun w => Sum.inr w = y) rfl rfl ?_ ?_
      · skip
        refine awp_seq ?_
        refine awp_go hmix ?_
        refine go_run' ttok 1 rfl ?_
        refine go_nil nd ?_
        refine then_norm ?_
        refine awp_block ?_
        refine awp_loopD (X := (Int × Twire_Reader)) (Y := (Bool ⊕ Unit)) [1, 5] [] (fun q => [(6, (I q.1))]) (fun q => [(21, some ⟨81, 3, [(.agg [(S q.2.s), (I q.2.at_), (I q.2.e)])]⟩)]) (fun q => l05_WireStops_s1 l q.1 q.2) (0, nv) [(21, some 21)] hx8 ⟨rfl, rfl, rfl, rfl, rfl, ⟨wkP_id _ rfl, trivial⟩, ⟨⟨_, rfl, rfl, rfl, .inl ⟨rfl, nr_one rfl⟩⟩, trivial⟩⟩ (fun x vR vz hz10 hk11 => ?_)
        obtain ⟨i, vv⟩ := x
        change l05_WireStops_s1 l i vv = _ at hz10
        unfold l05_WireStops_s1 at hz10
        refine awp_seq ?_
        refine awp_seq ?_
        refine awp_go hmix ?_
        refine go_run' ttok 2 rfl ?_
        refine go_lenT encTsawmilllaw05_Op l ttok rfl rfl rfl rfl rfl rfl ?_
        refine go_run' ttok 1 rfl ?_
        refine go_nil nd ?_
        refine then_norm ?_
        refine awp_cond (b := (decide (i < ((l.length : Nat) : Int)))) rfl (fun c12 => ?_) (fun c12 => ?_)
        · replace hz10 := of_bif_t hz10 c12
          refine awp_skip ?_
          refine then_norm ?_
          refine awp_seq ?_
          refine awp_block ?_
          refine awp_seq ?_
          refine awp_go hmix ?_
          refine go_run' ttok 1 rfl ?_
          refine go_callM (I (wire_Reader__Left_g vv)) [] [(21, some ⟨81, 3, [(.agg [(S vv.s), (I vv.at_), (I vv.e)])]⟩)] [(1000, some 21)] [(21, some 1000)] fn24 (wire_Reader__Left_w vv _ rfl) rfl rfl rfl rfl rfl trivial ⟨⟨rfl, rfl, rfl⟩, trivial⟩ rfl rfl ⟨⟨_, rfl, rfl, rfl, .inl ⟨rfl, nr_one rfl⟩⟩, trivial⟩ rfl rfl ⟨⟨_, rfl, rfl, rfl, .inl ⟨rfl, nr_one rfl⟩⟩, trivial⟩ (wkP_refl _ rfl) rfl (fun h => absurd rfl h) rfl rfl rfl ?_
          refine go_run' ttok 1 rfl ?_
          refine go_nil nd ?_
          refine then_norm ?_
          refine awp_seq ?_
          refine awp_go hmix ?_
          refine go_run' ttok 1 rfl ?_
          refine go_callM (I (wire_Reader__Err_g vv)) [] [(21, some ⟨81, 3, [(.agg [(S vv.s), (I vv.at_), (I vv.e)])]⟩)] [(1000, some 21)] [(21, some 1000)] fn34 (wire_Reader__Err_w vv _ rfl) rfl rfl rfl rfl rfl trivial ⟨⟨rfl, rfl, rfl⟩, trivial⟩ rfl rfl ⟨⟨_, rfl, rfl, rfl, .inl ⟨rfl, nr_one rfl⟩⟩, trivial⟩ rfl rfl ⟨⟨_, rfl, rfl, rfl, .inl ⟨rfl, nr_one rfl⟩⟩, trivial⟩ (wkP_refl _ rfl) rfl (fun h => absurd rfl h) rfl rfl rfl ?_
          refine go_run' ttok 1 rfl ?_
          refine go_nil nd ?_
          refine then_norm ?_
          refine awp_seq ?_
          refine awp_go hmix ?_
          refine go_run' ttok 3 rfl ?_
          obtain ⟨e, hv13, hz10⟩ := of_obind hz10
          refine go_indexT encTsawmilllaw05_Op l i e hv13 ttok rfl rfl rfl rfl rfl rfl rfl rfl rfl ?_
          refine go_run' ttok 1 rfl ?_
          obtain ⟨rv, hv14, hz10⟩ := of_obind hz10
          refine go_callM (.agg [(U8 rv.1.Kind), (U64 rv.1.N), (I rv.1.I_), (S rv.1.T), (encL I rv.1.L)]) [] [(21, some ⟨81, 3, [(.agg [(S rv.2.s), (I rv.2.at_), (I rv.2.e)])]⟩)] [(1000, some 21)] [(21, some 1000)] fn27 (l05_read_w vv e rv hv14) rfl rfl rfl rfl rfl trivial ⟨⟨rfl, rfl, rfl⟩, (wkP_refl _ rfl), trivial⟩ rfl rfl ⟨⟨_, rfl, rfl, rfl, .inl ⟨rfl, nr_one rfl⟩⟩, trivial⟩ rfl rfl ⟨⟨_, rfl, rfl, rfl, .inl ⟨rfl, nr_one rfl⟩⟩, trivial⟩ (wkP_refl _ rfl) rfl (fun h => absurd rfl h) rfl rfl rfl ?_
          refine go_run' ttok 2 rfl ?_
          refine go_nil nd ?_
          refine then_norm ?_
          refine awp_seq ?_
          refine awp_go hmix ?_
          refine go_run' ttok 1 rfl ?_
          refine go_callM (I (wire_Reader__Err_g rv.2)) [] [(21, some ⟨81, 3, [(.agg [(S rv.2.s), (I rv.2.at_), (I rv.2.e)])]⟩)] [(1000, some 21)] [(21, some 1000)] fn34 (wire_Reader__Err_w rv.2 _ rfl) rfl rfl rfl rfl rfl trivial ⟨⟨rfl, rfl, rfl⟩, trivial⟩ rfl rfl ⟨⟨_, rfl, rfl, rfl, .inl ⟨rfl, nr_one rfl⟩⟩, trivial⟩ rfl rfl ⟨⟨_, rfl, rfl, rfl, .inl ⟨rfl, nr_one rfl⟩⟩, trivial⟩ (wkP_refl _ rfl) rfl (fun h => absurd rfl h) rfl rfl rfl ?_
          refine go_run' ttok 1 rfl ?_
          refine go_nil nd ?_
          refine then_norm ?_
          refine awp_seq ?_
          refine awp_seq ?_
          refine awp_go hmix ?_
          refine go_run' ttok 3 rfl ?_
          refine go_gcase rfl rfl rfl (fun g15 => ?_) (fun g15 => ?_)
          · rw [g15]
            replace hz10 := of_bif_t hz10 g15
            refine go_run' ttok 1 rfl ?_
            refine go_call fn40 (l05_zero_w rv.1 _ rfl) rfl rfl rfl rfl rfl rfl rfl ?_
            refine go_run' ttok 2 rfl ?_
            refine go_gcase rfl rfl rfl (fun g16 => ?_) (fun g16 => ?_)
            · rw [g16]
              replace hz10 := of_bif_t hz10 g16
              refine go_run' ttok 12 rfl ?_
              refine go_nil nd ?_
              refine then_norm ?_
              refine awp_cond rfl (fun tt0 => ?_) (fun h => by cases h)
              clear tt0
              refine awp_seq ?_
              refine awp_go hmix ?_
              refine go_run' ttok 1 rfl ?_
              refine go_nil nd ?_
              refine then_norm ?_
              refine awp_ret ?_
              refine then_ret ?_
              refine block_ret ?_
              refine then_ret ?_
              obtain ⟨t, hn17, hq⟩ := of_mapr' hz10
              subst hq
              have hq : t = _ := hk11
              subst hq
              refine then_ret ?_
              refine block_ret ?_
              obtain ⟨t1, hn18, hq⟩ := of_mapl' hn17
              subst hq
              have hq := of_inl h
              replace hq := of_some hq
              subst hq
              refine then_ret ?_
              have e19 := of_some hn18
              subst e19
              refine ret_ret ?_
              refine fin0 ttok rfl rfl ?_
              exact (wkP_refl _ rfl)
            · rw [g16]
              replace hz10 := of_bif_f hz10 g16
              refine go_run' ttok 1 rfl ?_
              refine go_callM (I (wire_Reader__Left_g rv.2)) [] [(21, some ⟨81, 3, [(.agg [(S rv.2.s), (I rv.2.at_), (I rv.2.e)])]⟩)] [(1000, some 21)] [(21, some 1000)] fn24 (wire_Reader__Left_w rv.2 _ rfl) rfl rfl rfl rfl rfl trivial ⟨⟨rfl, rfl, rfl⟩, trivial⟩ rfl rfl ⟨⟨_, rfl, rfl, rfl, .inl ⟨rfl, nr_one rfl⟩⟩, trivial⟩ rfl rfl ⟨⟨_, rfl, rfl, rfl, .inl ⟨rfl, nr_one rfl⟩⟩, trivial⟩ (wkP_refl _ rfl) rfl (fun h => absurd rfl h) rfl rfl rfl ?_
              refine go_run' ttok 4 rfl ?_
              refine go_gcase rfl rfl rfl (fun g20 => ?_) (fun g20 => ?_)
              · rw [g20]
                replace hz10 := of_bif_t hz10 g20
                refine go_run' ttok 6 rfl ?_
                refine go_nil nd ?_
                refine then_norm ?_
                refine awp_cond rfl (fun tt0 => ?_) (fun h => by cases h)
                clear tt0
                refine awp_seq ?_
                refine awp_go hmix ?_
                refine go_run' ttok 1 rfl ?_
                refine go_nil nd ?_
                refine then_norm ?_
                refine awp_ret ?_
                refine then_ret ?_
                refine block_ret ?_
                refine then_ret ?_
                obtain ⟨t2, hn21, hq⟩ := of_mapr' hz10
                subst hq
                have hq : t2 = _ := hk11
                subst hq
                refine then_ret ?_
                refine block_ret ?_
                obtain ⟨t3, hn22, hq⟩ := of_mapl' hn21
                subst hq
                have hq := of_inl h
                replace hq := of_some hq
                subst hq
                refine then_ret ?_
                have e23 := of_some hn22
                subst e23
                refine ret_ret ?_
                refine fin0 ttok rfl rfl ?_
                exact (wkP_refl _ rfl)
              · rw [g20]
                replace hz10 := of_bif_f hz10 g20
                refine go_run' ttok 1 rfl ?_
                refine go_callM (I (wire_Reader__End_g rv.2)) [] [(21, some ⟨81, 3, [(.agg [(S rv.2.s), (I rv.2.at_), (I rv.2.e)])]⟩)] [(1000, some 21)] [(21, some 1000)] fn23 (wire_Reader__End_w rv.2 _ rfl) rfl rfl rfl rfl rfl trivial ⟨⟨rfl, rfl, rfl⟩, trivial⟩ rfl rfl ⟨⟨_, rfl, rfl, rfl, .inl ⟨rfl, nr_one rfl⟩⟩, trivial⟩ rfl rfl ⟨⟨_, rfl, rfl, rfl, .inl ⟨rfl, nr_one rfl⟩⟩, trivial⟩ (wkP_refl _ rfl) rfl (fun h => absurd rfl h) rfl rfl rfl ?_
                refine go_run' ttok 4 rfl ?_
                refine go_nil nd ?_
                refine then_norm ?_
                refine awp_cond (b := ((wire_Reader__End_g rv.2) != (wire_Reader__Err_g rv.2))) rfl (fun c24 => ?_) (fun c24 => ?_)
                · replace hz10 := of_bif_t hz10 c24
                  refine awp_seq ?_
                  refine awp_go hmix ?_
                  refine go_run' ttok 1 rfl ?_
                  refine go_nil nd ?_
                  refine then_norm ?_
                  refine awp_ret ?_
                  refine then_ret ?_
                  refine block_ret ?_
                  refine then_ret ?_
                  obtain ⟨t4, hn25, hq⟩ := of_mapr' hz10
                  subst hq
                  have hq : t4 = _ := hk11
                  subst hq
                  refine then_ret ?_
                  refine block_ret ?_
                  obtain ⟨t5, hn26, hq⟩ := of_mapl' hn25
                  subst hq
                  have hq := of_inl h
                  replace hq := of_some hq
                  subst hq
                  refine then_ret ?_
                  have e27 := of_some hn26
                  subst e27
                  refine ret_ret ?_
                  refine fin0 ttok rfl rfl ?_
                  exact (wkP_refl _ rfl)
                · replace hz10 := of_bif_f hz10 c24
                  refine awp_skip ?_
                  refine then_norm ?_
                  refine awp_seq ?_
                  refine awp_go hmix ?_
                  refine go_run' ttok 3 rfl ?_
                  refine go_gcase rfl rfl rfl (fun g28 => ?_) (fun g28 => ?_)
                  · rw [g28]
                    replace hz10 := of_bif_t hz10 g28
                    refine go_run' ttok 4 rfl ?_
                    refine go_nil nd ?_
                    refine then_norm ?_
                    refine awp_cond (b := ((wire_Reader__Err_g rv.2) != (wire_Reader__Err_g vv))) rfl (fun c29 => ?_) (fun c29 => ?_)
                    · replace hz10 := of_bif_t hz10 c29
                      refine awp_seq ?_
                      refine awp_go hmix ?_
                      refine go_run' ttok 1 rfl ?_
                      refine go_nil nd ?_
                      refine then_norm ?_
                      refine awp_ret ?_
                      refine block_ret ?_
                      refine then_ret ?_
                      obtain ⟨t6, hn30, hq⟩ := of_mapr' hz10
                      subst hq
                      have hq : t6 = _ := hk11
                      subst hq
                      refine then_ret ?_
                      refine block_ret ?_
                      obtain ⟨t7, hn31, hq⟩ := of_mapl' hn30
                      subst hq
                      have hq := of_inl h
                      replace hq := of_some hq
                      subst hq
                      refine then_ret ?_
                      have e32 := of_some hn31
                      subst e32
                      refine ret_ret ?_
                      refine fin0 ttok rfl rfl ?_
                      exact (wkP_refl _ rfl)
                    · replace hz10 := of_bif_f hz10 c29
                      refine awp_skip ?_
                      refine block_norm ?_
                      refine then_norm ?_
                      refine awp_go hmix ?_
                      refine go_run' ttok 3 rfl ?_
                      refine go_nil nd ?_
                      have e33 := of_some hz10
                      subst e33
                      refine then_norm ⟨rfl, ((W64 (i + 1)), rv.2), [(21, some 21)], ⟨rfl, rfl, rfl, rfl, rfl, ⟨wkP_id _ rfl, trivial⟩, ⟨⟨_, rfl, rfl, rfl, .inl ⟨rfl, nr_one rfl⟩⟩, trivial⟩⟩, hk11⟩
                  · rw [g28]
                    replace hz10 := of_bif_f hz10 g28
                    refine go_run' ttok 4 rfl ?_
                    refine go_nil nd ?_
                    refine then_norm ?_
                    refine awp_cond rfl (fun h => by cases h) (fun tt0 => ?_)
                    clear tt0
                    refine awp_skip ?_
                    refine block_norm ?_
                    refine then_norm ?_
                    refine awp_go hmix ?_
                    refine go_run' ttok 3 rfl ?_
                    refine go_nil nd ?_
                    have e34 := of_some hz10
                    subst e34
                    refine then_norm ⟨rfl, ((W64 (i + 1)), rv.2), [(21, some 21)], ⟨rfl, rfl, rfl, rfl, rfl, ⟨wkP_id _ rfl, trivial⟩, ⟨⟨_, rfl, rfl, rfl, .inl ⟨rfl, nr_one rfl⟩⟩, trivial⟩⟩, hk11⟩
          · rw [g15]
            replace hz10 := of_bif_f hz10 g15
            refine go_run' ttok 16 rfl ?_
            refine go_nil nd ?_
            refine then_norm ?_
            refine awp_cond rfl (fun h => by cases h) (fun tt0 => ?_)
            clear tt0
            refine awp_skip ?_
            refine then_norm ?_
            refine awp_seq ?_
            refine awp_go hmix ?_
            refine go_run' ttok 3 rfl ?_
            refine go_gcase rfl rfl rfl (fun g35 => ?_) (fun g35 => ?_)
            · rw [g35]
              replace hz10 := of_bif_t hz10 g35
              refine go_run' ttok 4 rfl ?_
              refine go_nil nd ?_
              refine then_norm ?_
              refine awp_cond (b := ((wire_Reader__Err_g rv.2) != (wire_Reader__Err_g vv))) rfl (fun c36 => ?_) (fun c36 => ?_)
              · replace hz10 := of_bif_t hz10 c36
                refine awp_seq ?_
                refine awp_go hmix ?_
                refine go_run' ttok 1 rfl ?_
                refine go_nil nd ?_
                refine then_norm ?_
                refine awp_ret ?_
                refine block_ret ?_
                refine then_ret ?_
                obtain ⟨t8, hn37, hq⟩ := of_mapr' hz10
                subst hq
                have hq : t8 = _ := hk11
                subst hq
                refine then_ret ?_
                refine block_ret ?_
                obtain ⟨t9, hn38, hq⟩ := of_mapl' hn37
                subst hq
                have hq := of_inl h
                replace hq := of_some hq
                subst hq
                refine then_ret ?_
                have e39 := of_some hn38
                subst e39
                refine ret_ret ?_
                refine fin0 ttok rfl rfl ?_
                exact (wkP_refl _ rfl)
              · replace hz10 := of_bif_f hz10 c36
                refine awp_skip ?_
                refine block_norm ?_
                refine then_norm ?_
                refine awp_go hmix ?_
                refine go_run' ttok 3 rfl ?_
                refine go_nil nd ?_
                have e40 := of_some hz10
                subst e40
                refine then_norm ⟨rfl, ((W64 (i + 1)), rv.2), [(21, some 21)], ⟨rfl, rfl, rfl, rfl, rfl, ⟨wkP_id _ rfl, trivial⟩, ⟨⟨_, rfl, rfl, rfl, .inl ⟨rfl, nr_one rfl⟩⟩, trivial⟩⟩, hk11⟩
            · rw [g35]
              replace hz10 := of_bif_f hz10 g35
              refine go_run' ttok 4 rfl ?_
              refine go_nil nd ?_
              refine then_norm ?_
              refine awp_cond rfl (fun h => by cases h) (fun tt0 => ?_)
              clear tt0
              refine awp_skip ?_
              refine block_norm ?_
              refine then_norm ?_
              refine awp_go hmix ?_
              refine go_run' ttok 3 rfl ?_
              refine go_nil nd ?_
              have e41 := of_some hz10
              subst e41
              refine then_norm ⟨rfl, ((W64 (i + 1)), rv.2), [(21, some 21)], ⟨rfl, rfl, rfl, rfl, rfl, ⟨wkP_id _ rfl, trivial⟩, ⟨⟨_, rfl, rfl, rfl, .inl ⟨rfl, nr_one rfl⟩⟩, trivial⟩⟩, hk11⟩
        · replace hz10 := of_bif_f hz10 c12
          refine awp_exit ?_
          refine then_exit ?_
          obtain ⟨t10, hn42, hq⟩ := of_mapr' hz10
          subst hq
          have hq : t10 = _ := hk11
          subst hq
          refine then_exit ?_
          refine block_here ?_
          have e43 := of_some hn42
          refine then_norm ⟨rfl, (), [], ⟨rfl, rfl, rfl, rfl, rfl, trivial, trivial⟩, e43⟩
      · intro w hw9
        subst hw9
        replace h := of_inr h
        refine awp_seq ?_
        refine awp_go hmix ?_
        obtain ⟨av2, hv44, h⟩ := of_obind h
        refine go_call fn16 (l05_awake_w av2 hv44) rfl rfl rfl rfl rfl rfl rfl ?_
        refine go_run' ttok 1 rfl ?_
        refine go_nil nd ?_
        refine then_norm ?_
        refine awp_ret ?_
        have e45 := of_some h
        subst e45
        refine ret_ret ?_
        refine fin0 ttok rfl rfl ?_
        exact (wkP_refl _ rfl)

end Go.Proofs.Ytlkmdaojdongjaa
