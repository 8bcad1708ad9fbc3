/- A1c: what functions of the program compute (written by mod.py). -/
import Derived.Test.YtlkmdaojdongjaaA1b
import Derived.KernelRfl
namespace Go.Proofs.Ytlkmdaojdongjaa
open Go Go.Ab
set_option linter.unusedSimpArgs false
set_option linter.unusedVariables false
set_option maxRecDepth 20000

/-- sawmill/sawmilllaw05.WireCut -/
noncomputable def l05_WireCut_g (f : Tsawmilllaw05_Field) (n : Int) : Option Bool :=
  (bif (!(l05_small_g f)) then (Option.bind l05_awake_g (fun av => some av)) else (Option.bind (l05_write_g f) (fun wv => (bif (((wv.size : Nat) : Int) == 0) then some false else (bif (((wv.size : Nat) : Int) != 0) then (Option.bind (ssubO wv 0 (Int.tmod (W64 n) ((wv.size : Nat) : Int))) (fun t => (letB (wire_NewReader_g t) (fun nv => (Option.bind (l05_exact_g f) (fun ev => (Option.bind (l05_read_g nv ev) (fun rv => (bif (l05_zero_g rv.1) then (bif ((wire_Reader__Err_g rv.2) == 3) then (bif ((wire_Reader__Left_g rv.2) == ((t.size : Nat) : Int)) then (Option.bind l05_awake_g (fun av1 => some av1)) else some false) else some false) else some false))))))))) else none)))))
theorem l05_WireCut_w (f : Tsawmilllaw05_Field) (n : Int) (r : Bool) (h : l05_WireCut_g f n = some r) : Holds Try.prog 10 [(encTsawmilllaw05_Field f), ((fun n => AV.sc (.int .u16 n)) n)] [] (B r) [] := by
  unfold l05_WireCut_g at h
  refine holds_fn Try.func10 rfl Try.ntmps10 rfl rfl rfl ?_
  refine awp_seq ?_
  refine awp_go hmix ?_
  refine go_run' ttok 2 rfl ?_
  refine go_nil nd ?_
  refine then_norm ?_
  refine awp_seq ?_
  refine awp_seq ?_
  refine awp_go hmix ?_
  refine go_run' ttok 1 rfl ?_
  refine go_call fn36 (l05_small_w f _ rfl) rfl rfl rfl rfl rfl rfl rfl ?_
  refine go_run' ttok 1 rfl ?_
  refine go_nil nd ?_
  refine then_norm ?_
  refine awp_cond (b := (!(l05_small_g f))) rfl (fun c1 => ?_) (fun c1 => ?_)
  · replace h := of_bif_t h c1
    refine awp_seq ?_
    refine awp_go hmix ?_
    obtain ⟨av, hv2, h⟩ := of_obind h
    refine go_call fn16 (l05_awake_w av hv2) rfl rfl rfl rfl rfl rfl rfl ?_
    refine go_run' ttok 1 rfl ?_
    refine go_nil nd ?_
    refine then_norm ?_
    refine awp_ret ?_
    refine then_ret ?_
    have e3 := of_some h
    subst e3
    refine ret_ret ?_
    refine fin0 ttok rfl rfl ?_
    exact (wkP_refl _ rfl)
  · replace h := of_bif_f h c1
    refine awp_skip ?_
    refine then_norm ?_
    refine awp_seq ?_
    refine awp_go hmix ?_
    refine go_run' ttok 1 rfl ?_
    obtain ⟨wv, hv4, h⟩ := of_obind h
    refine go_call fn37 (l05_write_w f wv hv4) rfl rfl rfl rfl rfl rfl rfl ?_
    refine go_run' ttok 1 rfl ?_
    refine go_nil nd ?_
    refine then_norm ?_
    refine awp_seq ?_
    refine awp_seq ?_
    refine awp_go hmix ?_
    refine go_run' ttok 3 rfl ?_
    refine go_nil nd ?_
    refine then_norm ?_
    refine awp_cond (b := (((wv.size : Nat) : Int) == 0)) rfl (fun c5 => ?_) (fun c5 => ?_)
    · replace h := of_bif_t h c5
      refine awp_seq ?_
      refine awp_go hmix ?_
      refine go_run' ttok 1 rfl ?_
      refine go_nil nd ?_
      refine then_norm ?_
      refine awp_ret ?_
      refine then_ret ?_
      have e6 := of_some h
      subst e6
      refine ret_ret ?_
      refine fin0 ttok rfl rfl ?_
      exact (wkP_refl _ rfl)
    · replace h := of_bif_f h c5
      refine awp_skip ?_
      refine then_norm ?_
      refine awp_seq ?_
      refine awp_go hmix ?_
      refine go_run' ttok 5 rfl ?_
      obtain ⟨hd7, h⟩ := of_grd h
      refine go_remT (W64 n) ((wv.size : Nat) : Int) hd7 rfl rfl rfl rfl rfl ?_
      obtain ⟨t, hv8, h⟩ := of_obind h
      refine go_sliceS wv t 0 (Int.tmod (W64 n) ((wv.size : Nat) : Int)) hv8 ttok rfl rfl rfl rfl rfl rfl ⟨_, rfl⟩ rfl ?_
      refine go_run' ttok 1 rfl ?_
      refine go_nil nd ?_
      refine then_norm ?_
      refine awp_seq ?_
      refine awp_go hmix ?_
      refine go_run' ttok 1 rfl ?_
      obtain ⟨nv, hv9, h⟩ := of_let h
      refine go_callM (.ref 26 0 0) [] [(26, some ⟨81, 3, [(.agg [(S nv.s), (I nv.at_), (I nv.e)])]⟩)] [] [(26, some 999)] fn21 (wire_NewReader_w t nv hv9) rfl rfl rfl rfl rfl trivial ⟨(wkP_refl _ rfl), trivial⟩ rfl rfl trivial rfl rfl ⟨⟨_, rfl, rfl, rfl, .inl ⟨rfl, nr_one rfl⟩⟩, trivial⟩ ⟨rfl, rfl, rfl⟩ rfl (fun h => absurd rfl h) rfl rfl rfl ?_
      refine go_run' ttok 1 rfl ?_
      refine go_nil nd ?_
      refine then_norm ?_
      refine awp_seq ?_
      refine awp_go hmix ?_
      refine go_run' ttok 2 rfl ?_
      obtain ⟨ev, hv10, h⟩ := of_obind h
      refine go_call fn38 (l05_exact_w f ev hv10) rfl rfl rfl rfl rfl rfl rfl ?_
      obtain ⟨rv, hv11, h⟩ := of_obind h
      refine go_callM (.agg [(U8 rv.1.Kind), (U64 rv.1.N), (I rv.1.I_), (S rv.1.T), (encL I rv.1.L)]) [] [(26, some ⟨81, 3, [(.agg [(S rv.2.s), (I rv.2.at_), (I rv.2.e)])]⟩)] [(1000, some 26)] [(26, some 1000)] fn27 (l05_read_w nv ev rv hv11) rfl rfl rfl rfl rfl trivial ⟨⟨rfl, rfl, rfl⟩, (wkP_refl _ rfl), trivial⟩ rfl rfl ⟨⟨_, rfl, rfl, rfl, .inl ⟨rfl, nr_one rfl⟩⟩, trivial⟩ rfl rfl ⟨⟨_, rfl, rfl, rfl, .inl ⟨rfl, nr_one rfl⟩⟩, trivial⟩ (wkP_refl _ rfl) rfl (fun h => absurd rfl h) rfl rfl rfl ?_
      refine go_run' ttok 2 rfl ?_
      refine go_nil nd ?_
      refine then_norm ?_
      refine awp_seq ?_
      refine awp_go hmix ?_
      refine go_run' ttok 1 rfl ?_
      refine go_call fn40 (l05_zero_w rv.1 _ rfl) rfl rfl rfl rfl rfl rfl rfl ?_
      refine go_run' ttok 1 rfl ?_
      refine go_gcase rfl rfl rfl (fun g12 => ?_) (fun g12 => ?_)
      · rw [g12]
        replace h := of_bif_t h g12
        refine go_run' ttok 1 rfl ?_
        refine go_callM (I (wire_Reader__Err_g rv.2)) [] [(26, some ⟨81, 3, [(.agg [(S rv.2.s), (I rv.2.at_), (I rv.2.e)])]⟩)] [(1000, some 26)] [(26, some 1000)] fn34 (wire_Reader__Err_w rv.2 _ rfl) rfl rfl rfl rfl rfl trivial ⟨⟨rfl, rfl, rfl⟩, trivial⟩ rfl rfl ⟨⟨_, rfl, rfl, rfl, .inl ⟨rfl, nr_one rfl⟩⟩, trivial⟩ rfl rfl ⟨⟨_, rfl, rfl, rfl, .inl ⟨rfl, nr_one rfl⟩⟩, trivial⟩ (wkP_refl _ rfl) rfl (fun h => absurd rfl h) rfl rfl rfl ?_
        refine go_run' ttok 3 rfl ?_
        refine go_gcase rfl rfl rfl (fun g13 => ?_) (fun g13 => ?_)
        · rw [g13]
          replace h := of_bif_t h g13
          refine go_run' ttok 1 rfl ?_
          refine go_callM (I (wire_Reader__Left_g rv.2)) [] [(26, some ⟨81, 3, [(.agg [(S rv.2.s), (I rv.2.at_), (I rv.2.e)])]⟩)] [(1000, some 26)] [(26, some 1000)] fn24 (wire_Reader__Left_w rv.2 _ rfl) rfl rfl rfl rfl rfl trivial ⟨⟨rfl, rfl, rfl⟩, trivial⟩ rfl rfl ⟨⟨_, rfl, rfl, rfl, .inl ⟨rfl, nr_one rfl⟩⟩, trivial⟩ rfl rfl ⟨⟨_, rfl, rfl, rfl, .inl ⟨rfl, nr_one rfl⟩⟩, trivial⟩ (wkP_refl _ rfl) rfl (fun h => absurd rfl h) rfl rfl rfl ?_
          refine go_run' ttok 5 rfl ?_
          refine go_gcase rfl rfl rfl (fun g14 => ?_) (fun g14 => ?_)
          · rw [g14]
            replace h := of_bif_t h g14
            obtain ⟨av1, hv15, h⟩ := of_obind h
            refine go_call fn16 (l05_awake_w av1 hv15) rfl rfl rfl rfl rfl rfl rfl ?_
            refine go_run' ttok 2 rfl ?_
            refine go_nil nd ?_
            refine then_norm ?_
            refine awp_ret ?_
            have e16 := of_some h
            subst e16
            refine ret_ret ?_
            refine fin0 ttok rfl rfl ?_
            exact (wkP_refl _ rfl)
          · rw [g14]
            replace h := of_bif_f h g14
            refine go_run' ttok 3 rfl ?_
            refine go_nil nd ?_
            refine then_norm ?_
            refine awp_ret ?_
            have e17 := of_some h
            subst e17
            refine ret_ret ?_
            refine fin0 ttok rfl rfl ?_
            exact (wkP_refl _ rfl)
        · rw [g13]
          replace h := of_bif_f h g13
          refine go_run' ttok 10 rfl ?_
          refine go_nil nd ?_
          refine then_norm ?_
          refine awp_ret ?_
          have e18 := of_some h
          subst e18
          refine ret_ret ?_
          refine fin0 ttok rfl rfl ?_
          exact (wkP_refl _ rfl)
      · rw [g12]
        replace h := of_bif_f h g12
        refine go_run' ttok 15 rfl ?_
        refine go_nil nd ?_
        refine then_norm ?_
        refine awp_ret ?_
        have e19 := of_some h
        subst e19
        refine ret_ret ?_
        refine fin0 ttok rfl rfl ?_
        exact (wkP_refl _ rfl)

/-- sawmill/sawmilllaw05.WireNil -/
noncomputable def l05_WireNil_g (o : Tsawmilllaw05_Op) : Option Bool :=
  (letB (l05_read_nil_g o) (fun rv => (bif (l05_zero_g rv) then (bif (wire_Reader__Left_nil_g == 0) then (bif (wire_Reader__Err_nil_g == 1) then (bif (wire_Reader__End_nil_g == 1) then (Option.bind l05_awake_g (fun av => some av)) else some false) else some false) else some false) else some false)))
theorem l05_WireNil_w (o : Tsawmilllaw05_Op) (r : Bool) (h : l05_WireNil_g o = some r) : Holds Try.prog 11 [(encTsawmilllaw05_Op o)] [] (B r) [] := by
  unfold l05_WireNil_g at h
  refine holds_fn Try.func11 rfl Try.ntmps11 rfl rfl rfl ?_
  refine awp_seq ?_
  refine awp_go hmix ?_
  refine go_run' ttok 2 rfl ?_
  refine go_nil nd ?_
  refine then_norm ?_
  refine awp_seq ?_
  refine awp_go hmix ?_
  refine go_run' ttok 1 rfl ?_
  refine go_nil nd ?_
  refine then_norm ?_
  refine awp_seq ?_
  refine awp_go hmix ?_
  refine go_run' ttok 2 rfl ?_
  obtain ⟨rv, hv1, h⟩ := of_let h
  refine go_call fn27 (l05_read_nil_w o rv hv1) rfl rfl rfl rfl rfl rfl rfl ?_
  refine go_run' ttok 2 rfl ?_
  refine go_nil nd ?_
  refine then_norm ?_
  refine awp_seq ?_
  refine awp_go hmix ?_
  refine go_run' ttok 1 rfl ?_
  refine go_call fn40 (l05_zero_w rv _ rfl) rfl rfl rfl rfl rfl rfl rfl ?_
  refine go_run' ttok 1 rfl ?_
  refine go_gcase rfl rfl rfl (fun g2 => ?_) (fun g2 => ?_)
  · rw [g2]
    replace h := of_bif_t h g2
    refine go_run' ttok 1 rfl ?_
    refine go_call fn24 (wire_Reader__Left_nil_w _ rfl) rfl rfl rfl rfl rfl rfl rfl ?_
    refine go_run' ttok 3 rfl ?_
    refine go_gcase rfl rfl rfl (fun g3 => ?_) (fun g3 => ?_)
    · rw [g3]
      replace h := of_bif_t h g3
      refine go_run' ttok 1 rfl ?_
      refine go_call fn34 (wire_Reader__Err_nil_w _ rfl) rfl rfl rfl rfl rfl rfl rfl ?_
      refine go_run' ttok 3 rfl ?_
      refine go_gcase rfl rfl rfl (fun g4 => ?_) (fun g4 => ?_)
      · rw [g4]
        replace h := of_bif_t h g4
        refine go_run' ttok 1 rfl ?_
        refine go_call fn23 (wire_Reader__End_nil_w _ rfl) rfl rfl rfl rfl rfl rfl rfl ?_
        refine go_run' ttok 3 rfl ?_
        refine go_gcase rfl rfl rfl (fun g5 => ?_) (fun g5 => ?_)
        · rw [g5]
          replace h := of_bif_t h g5
          obtain ⟨av, hv6, h⟩ := of_obind h
          refine go_call fn16 (l05_awake_w av hv6) rfl rfl rfl rfl rfl rfl rfl ?_
          refine go_run' ttok 2 rfl ?_
          refine go_nil nd ?_
          refine then_norm ?_
          refine awp_ret ?_
          have e7 := of_some h
          subst e7
          refine ret_ret ?_
          refine fin0 ttok rfl rfl ?_
          exact (wkP_refl _ rfl)
        · rw [g5]
          replace h := of_bif_f h g5
          refine go_run' ttok 3 rfl ?_
          refine go_nil nd ?_
          refine then_norm ?_
          refine awp_ret ?_
          have e8 := of_some h
          subst e8
          refine ret_ret ?_
          refine fin0 ttok rfl rfl ?_
          exact (wkP_refl _ rfl)
      · rw [g4]
        replace h := of_bif_f h g4
        refine go_run' ttok 8 rfl ?_
        refine go_nil nd ?_
        refine then_norm ?_
        refine awp_ret ?_
        have e9 := of_some h
        subst e9
        refine ret_ret ?_
        refine fin0 ttok rfl rfl ?_
        exact (wkP_refl _ rfl)
    · rw [g3]
      replace h := of_bif_f h g3
      refine go_run' ttok 13 rfl ?_
      refine go_nil nd ?_
      refine then_norm ?_
      refine awp_ret ?_
      have e10 := of_some h
      subst e10
      refine ret_ret ?_
      refine fin0 ttok rfl rfl ?_
      exact (wkP_refl _ rfl)
  · rw [g2]
    replace h := of_bif_f h g2
    refine go_run' ttok 18 rfl ?_
    refine go_nil nd ?_
    refine then_norm ?_
    refine awp_ret ?_
    have e11 := of_some h
    subst e11
    refine ret_ret ?_
    refine fin0 ttok rfl rfl ?_
    exact (wkP_refl _ rfl)

end Go.Proofs.Ytlkmdaojdongjaa
