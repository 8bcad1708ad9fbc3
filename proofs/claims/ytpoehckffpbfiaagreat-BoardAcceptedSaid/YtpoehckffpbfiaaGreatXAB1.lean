/- B1: what functions of the program compute (written by mod.py). -/
import Derived.Test.YtpoehckffpbfiaaGreatXAB0
import Derived.Test.YtpoehckffpbfiaaGreatXAAb37
import Derived.KernelRfl
namespace Go.Proofs.YtpoehckffpbfiaaGreat
open Go Go.Ab
set_option linter.unusedSimpArgs false
set_option linter.unusedVariables false
set_option linter.unusedSectionVars false
set_option maxRecDepth 20000
set_option maxHeartbeats 1000000
noncomputable def board_Decode_rd (L : List Df) (x : List Int) : Option (List Df) :=
 (Option.bind (getI x 0) (fun e10 => (Option.bind (subO x 1 ((x.length : Nat) : Int)) (fun l1 => (Option.bind (board_toBox_g l1) (fun tv4 => (Option.bind (appO 56 L ([(⟨e10, tv4⟩ : Df)])) (fun l2 => some l2))))))))
noncomputable def board_Decode_ch (d : List Int) : Nat → Option (List Df)
 | 0 => some []
 | k + 1 => Option.bind (board_Decode_ch d k) (fun L => board_Decode_rd L ((d.drop (7 * k)).take 7))
theorem board_Decode_ch_le {d : List Int} {N : Nat} {L : List Df} (h : board_Decode_ch d N = some L) : ∀ k, k ≤ N → ∃ L', board_Decode_ch d k = some L' := by
 induction N generalizing L with
 | zero => intro k hk; rw [Nat.le_zero.1 hk]; exact ⟨_, h⟩
 | succ N ih =>
  intro k hk
  obtain ⟨L0, h0, _⟩ := of_obind h
  by_cases e : k = N + 1
  ·rw [e]; exact ⟨_, h⟩
  ·exact ih h0 k (by omega)
noncomputable def board_Decode_g (s : ByteArray) : Option (TBoard × Int) :=
 (letB (wire_NewReader_g s) (fun nv => (Option.bind (wire_Reader__Text_g nv 16) (fun tv => (Option.bind (wire_Reader__Text_g tv.2 16) (fun tv1 => (Option.bind (wire_Reader__Text_g tv1.2 16) (fun tv2 => (Option.bind (wire_Reader__Ints_g tv2.2 14 (-1099511627776) 1099511627776) (fun iv => (Option.bind (wire_Reader__Ints_g iv.2 448 (-1099511627776) 1099511627776) (fun iv1 => (bif ((wire_Reader__End_g iv1.2) != 0) then some ((⟨(⟨#[]⟩ : ByteArray), (⟨#[]⟩ : ByteArray), (⟨#[]⟩ : ByteArray), 0, (⟨(⟨0, 0⟩ : Sp), (⟨0, 0⟩ : Sp), (⟨0, 0⟩ : Sp)⟩ : Bx), 0, [], 0, (⟨0, 0, 0⟩ : TCell), false, 0⟩ : TBoard), 5) else (bif (((iv.1.length : Nat) : Int) != 14) then some ((⟨(⟨#[]⟩ : ByteArray), (⟨#[]⟩ : ByteArray), (⟨#[]⟩ : ByteArray), 0, (⟨(⟨0, 0⟩ : Sp), (⟨0, 0⟩ : Sp), (⟨0, 0⟩ : Sp)⟩ : Bx), 0, [], 0, (⟨0, 0, 0⟩ : TCell), false, 0⟩ : TBoard), 5) else (bif ((Int.tmod ((iv1.1.length : Nat) : Int) 7) != 0) then some ((⟨(⟨#[]⟩ : ByteArray), (⟨#[]⟩ : ByteArray), (⟨#[]⟩ : ByteArray), 0, (⟨(⟨0, 0⟩ : Sp), (⟨0, 0⟩ : Sp), (⟨0, 0⟩ : Sp)⟩ : Bx), 0, [], 0, (⟨0, 0, 0⟩ : TCell), false, 0⟩ : TBoard), 5) else (Option.bind (getI iv.1 12) (fun e => (bif (decide (e < 0)) then some ((⟨(⟨#[]⟩ : ByteArray), (⟨#[]⟩ : ByteArray), (⟨#[]⟩ : ByteArray), 0, (⟨(⟨0, 0⟩ : Sp), (⟨0, 0⟩ : Sp), (⟨0, 0⟩ : Sp)⟩ : Bx), 0, [], 0, (⟨0, 0, 0⟩ : TCell), false, 0⟩ : TBoard), 5) else (Option.bind (getI iv.1 12) (fun e1 => (bif (decide (1 < e1)) then some ((⟨(⟨#[]⟩ : ByteArray), (⟨#[]⟩ : ByteArray), (⟨#[]⟩ : ByteArray), 0, (⟨(⟨0, 0⟩ : Sp), (⟨0, 0⟩ : Sp), (⟨0, 0⟩ : Sp)⟩ : Bx), 0, [], 0, (⟨0, 0, 0⟩ : TCell), false, 0⟩ : TBoard), 5) else (Option.bind (getI iv.1 0) (fun e2 => (Option.bind (subO iv.1 1 7) (fun l => (Option.bind (board_toBox_g l) (fun tv3 => (Option.bind (getI iv.1 7) (fun e3 => (Option.bind (getI iv.1 8) (fun e4 => (Option.bind (getI iv.1 9) (fun e5 => (Option.bind (getI iv.1 10) (fun e6 => (Option.bind (getI iv.1 11) (fun e7 => (Option.bind (getI iv.1 12) (fun e8 => (Option.bind (getI iv.1 13) (fun e9 => (bif (iv1.1.length % 7 == 0 && decide (iv1.1.length ≤ 2000000000000)) then (Option.bind (board_Decode_ch iv1.1 (iv1.1.length / 7)) (fun L => some ((⟨tv.1, tv1.1, tv2.1, e2, tv3, e3, L, e4, (⟨e5, e6, e7⟩ : TCell), (e8 == 1), e9⟩ : TBoard), 0))) else none))))))))))))))))))))))))))))))))))))))))))
theorem board_Decode_w (s : ByteArray) (r : (TBoard × Int)) (h : board_Decode_g s = some r) : Holds Tryz.prog 18 [(S s)] [] (.tup [(encTBoard r.1), (I r.2)]) [] := by
 unfold board_Decode_g at h
 refine holds_fnX Tryz.func18 rfl Tryz.ntmps18 rfl rfl (fun lim => ?_)
 refine awx_seq ?_
 refine awp_go hmix ?_
 refine go_run' ttok 2 rfl ?_
 refine go_nil nd ?_
 refine then_norm ?_
 refine awx_seq ?_
 refine awp_go hmix ?_
 refine go_run' ttok 1 rfl ?_
 obtain ⟨nv, hv1, h⟩ := of_let h
 refine go_callM (.ref 10 0 0) [] [(10, some ⟨150, 3, [(.agg [(S nv.s), (I nv.at_), (I nv.e)])]⟩)] [] [(10, some 999)] fn60 (wire_NewReader_w s nv hv1) rfl rfl rfl rfl rfl trivial ⟨(wkP_refl _ rfl), trivial⟩ rfl rfl trivial rfl rfl ⟨⟨_, rfl, rfl, rfl, .inl ⟨rfl, nr_one rfl⟩⟩, trivial⟩ ⟨rfl, rfl, rfl⟩ rfl (fun h => absurd rfl h) rfl rfl rfl ?_
 refine go_run' ttok 1 rfl ?_
 refine go_nil nd ?_
 refine then_norm ?_
 refine awx_seq ?_
 refine awp_go hmix ?_
 refine go_run' ttok 1 rfl ?_
 obtain ⟨tv, hv2, h⟩ := of_obind h
 refine go_callM (S tv.1) [] [(10, some ⟨150, 3, [(.agg [(S tv.2.s), (I tv.2.at_), (I tv.2.e)])]⟩)] [(1000, some 10)] [(10, some 1000)] fn61 (wire_Reader__Text_w nv 16 tv hv2) rfl rfl rfl rfl rfl trivial ⟨⟨rfl, rfl, rfl⟩, (wkP_refl _ rfl), trivial⟩ rfl rfl ⟨⟨_, rfl, rfl, rfl, .inl ⟨rfl, nr_one rfl⟩⟩, trivial⟩ rfl rfl ⟨⟨_, rfl, rfl, rfl, .inl ⟨rfl, nr_one rfl⟩⟩, trivial⟩ (wkP_refl _ rfl) rfl (fun h => absurd rfl h) rfl rfl rfl ?_
 refine go_run' ttok 1 rfl ?_
 obtain ⟨tv1, hv3, h⟩ := of_obind h
 refine go_callM (S tv1.1) [] [(10, some ⟨150, 3, [(.agg [(S tv1.2.s), (I tv1.2.at_), (I tv1.2.e)])]⟩)] [(1000, some 10)] [(10, some 1000)] fn61 (wire_Reader__Text_w tv.2 16 tv1 hv3) rfl rfl rfl rfl rfl trivial ⟨⟨rfl, rfl, rfl⟩, (wkP_refl _ rfl), trivial⟩ rfl rfl ⟨⟨_, rfl, rfl, rfl, .inl ⟨rfl, nr_one rfl⟩⟩, trivial⟩ rfl rfl ⟨⟨_, rfl, rfl, rfl, .inl ⟨rfl, nr_one rfl⟩⟩, trivial⟩ (wkP_refl _ rfl) rfl (fun h => absurd rfl h) rfl rfl rfl ?_
 refine go_run' ttok 1 rfl ?_
 obtain ⟨tv2, hv4, h⟩ := of_obind h
 refine go_callM (S tv2.1) [] [(10, some ⟨150, 3, [(.agg [(S tv2.2.s), (I tv2.2.at_), (I tv2.2.e)])]⟩)] [(1000, some 10)] [(10, some 1000)] fn61 (wire_Reader__Text_w tv1.2 16 tv2 hv4) rfl rfl rfl rfl rfl trivial ⟨⟨rfl, rfl, rfl⟩, (wkP_refl _ rfl), trivial⟩ rfl rfl ⟨⟨_, rfl, rfl, rfl, .inl ⟨rfl, nr_one rfl⟩⟩, trivial⟩ rfl rfl ⟨⟨_, rfl, rfl, rfl, .inl ⟨rfl, nr_one rfl⟩⟩, trivial⟩ (wkP_refl _ rfl) rfl (fun h => absurd rfl h) rfl rfl rfl ?_
 refine go_run' ttok 3 rfl ?_
 refine go_nil nd ?_
 refine then_norm ?_
 refine awx_seq ?_
 refine awp_go hmix ?_
 refine go_run' ttok 1 rfl ?_
 obtain ⟨iv, hv5, h⟩ := of_obind h
 refine go_callM (encL I iv.1) [] [(10, some ⟨150, 3, [(.agg [(S iv.2.s), (I iv.2.at_), (I iv.2.e)])]⟩)] [(1000, some 10)] [(10, some 1000)] fn62 (wire_Reader__Ints_w tv2.2 14 (-1099511627776) 1099511627776 iv hv5) rfl rfl rfl rfl rfl trivial ⟨⟨rfl, rfl, rfl⟩, (wkP_refl _ rfl), (wkP_refl _ rfl), (wkP_refl _ rfl), trivial⟩ rfl rfl ⟨⟨_, rfl, rfl, rfl, .inl ⟨rfl, nr_one rfl⟩⟩, trivial⟩ rfl rfl ⟨⟨_, rfl, rfl, rfl, .inl ⟨rfl, nr_one rfl⟩⟩, trivial⟩ (wkP_refl _ rfl) rfl (fun h => absurd rfl h) rfl rfl rfl ?_
 refine go_run' ttok 1 rfl ?_
 refine go_nil nd ?_
 refine then_norm ?_
 refine awx_seq ?_
 refine awp_go hmix ?_
 refine go_run' ttok 1 rfl ?_
 obtain ⟨iv1, hv6, h⟩ := of_obind h
 refine go_callM (encL I iv1.1) [] [(10, some ⟨150, 3, [(.agg [(S iv1.2.s), (I iv1.2.at_), (I iv1.2.e)])]⟩)] [(1000, some 10)] [(10, some 1000)] fn62 (wire_Reader__Ints_w iv.2 448 (-1099511627776) 1099511627776 iv1 hv6) rfl rfl rfl rfl rfl trivial ⟨⟨rfl, rfl, rfl⟩, (wkP_refl _ rfl), (wkP_refl _ rfl), (wkP_refl _ rfl), trivial⟩ rfl rfl ⟨⟨_, rfl, rfl, rfl, .inl ⟨rfl, nr_one rfl⟩⟩, trivial⟩ rfl rfl ⟨⟨_, rfl, rfl, rfl, .inl ⟨rfl, nr_one rfl⟩⟩, trivial⟩ (wkP_refl _ rfl) rfl (fun h => absurd rfl h) rfl rfl rfl ?_
 refine go_run' ttok 1 rfl ?_
 refine go_nil nd ?_
 refine then_norm ?_
 refine awx_seq ?_
 refine awp_seq ?_
 refine awp_go hmix ?_
 refine go_run' ttok 1 rfl ?_
 refine go_callR (I (wire_Reader__End_g iv1.2)) [] [(10, some ⟨150, 3, [(.agg [(S iv1.2.s), (I iv1.2.at_), (I iv1.2.e)])]⟩)] [(1000, some 10)] [(10, some 1000)] fn63 (wire_Reader__End_w iv1.2 _ rfl) rfl rfl rfl rfl rfl trivial ⟨⟨rfl, rfl, rfl⟩, trivial⟩ rfl rfl ⟨⟨_, rfl, rfl, rfl, .inl ⟨rfl, nr_one rfl⟩⟩, trivial⟩ rfl rfl ⟨⟨_, rfl, rfl, rfl, .inl ⟨rfl, nr_one rfl⟩⟩, trivial⟩ (wkP_refl _ rfl) rfl (fun h => absurd rfl h) ⟨rfl, trivial⟩ rfl rfl rfl ?_
 refine go_run' ttok 2 rfl ?_
 refine go_gcase rfl rfl rfl (fun g7 => ?_) (fun g7 => ?_)
 ·rw [g7]
  replace h := of_bif_t h g7
  refine go_run' ttok 22 rfl ?_
  refine go_nil nd ?_
  refine then_norm ?_
  refine awp_cond rfl (fun tt0 => ?_) (fun h => by cases h)
  clear tt0
  refine awp_seq ?_
  refine awp_go hmix ?_
  refine go_run' ttok 3 rfl ?_
  refine go_nil nd ?_
  refine then_norm ?_
  refine awp_ret ?_
  refine then_ret ?_
  have e8 := of_some h
  subst e8
  refine ret_ret ?_
  refine fin0 ttok rfl rfl ?_
  exact ⟨⟨(wkP_refl _ rfl), (wkP_refl _ rfl), (wkP_refl _ rfl), (wkP_refl _ rfl), (wkP_refl _ rfl), (wkP_refl _ rfl), (wkP_refl _ rfl), (wkP_refl _ rfl), (wkP_refl _ rfl), (wkP_refl _ rfl), (wkP_refl _ rfl), wkP_nilm, (wkP_refl _ rfl), (wkP_refl _ rfl), (wkP_refl _ rfl), (wkP_refl _ rfl), (wkP_refl _ rfl), (wkP_refl _ rfl), trivial⟩, (wkP_refl _ rfl), trivial⟩
 ·rw [g7]
  replace h := of_bif_f h g7
  refine go_run' ttok 1 rfl ?_
  refine go_lenT I iv.1 ttok rfl rfl rfl rfl rfl rfl ?_
  refine go_run' ttok 3 rfl ?_
  refine go_gcase rfl rfl rfl (fun g9 => ?_) (fun g9 => ?_)
  ·rw [g9]
   replace h := of_bif_t h g9
   refine go_run' ttok 17 rfl ?_
   refine go_nil nd ?_
   refine then_norm ?_
   refine awp_cond rfl (fun tt0 => ?_) (fun h => by cases h)
   clear tt0
   refine awp_seq ?_
   refine awp_go hmix ?_
   refine go_run' ttok 3 rfl ?_
   refine go_nil nd ?_
   refine then_norm ?_
   refine awp_ret ?_
   refine then_ret ?_
   have e10 := of_some h
   subst e10
   refine ret_ret ?_
   refine fin0 ttok rfl rfl ?_
   exact ⟨⟨(wkP_refl _ rfl), (wkP_refl _ rfl), (wkP_refl _ rfl), (wkP_refl _ rfl), (wkP_refl _ rfl), (wkP_refl _ rfl), (wkP_refl _ rfl), (wkP_refl _ rfl), (wkP_refl _ rfl), (wkP_refl _ rfl), (wkP_refl _ rfl), wkP_nilm, (wkP_refl _ rfl), (wkP_refl _ rfl), (wkP_refl _ rfl), (wkP_refl _ rfl), (wkP_refl _ rfl), (wkP_refl _ rfl), trivial⟩, (wkP_refl _ rfl), trivial⟩
  ·rw [g9]
   replace h := of_bif_f h g9
   refine go_run' ttok 1 rfl ?_
   refine go_lenT I iv1.1 ttok rfl rfl rfl rfl rfl rfl ?_
   refine go_run' ttok 4 rfl ?_
   refine go_gcase rfl rfl rfl (fun g11 => ?_) (fun g11 => ?_)
   ·rw [g11]
    replace h := of_bif_t h g11
    refine go_run' ttok 11 rfl ?_
    refine go_nil nd ?_
    refine then_norm ?_
    refine awp_cond rfl (fun tt0 => ?_) (fun h => by cases h)
    clear tt0
    refine awp_seq ?_
    refine awp_go hmix ?_
    refine go_run' ttok 3 rfl ?_
    refine go_nil nd ?_
    refine then_norm ?_
    refine awp_ret ?_
    refine then_ret ?_
    have e12 := of_some h
    subst e12
    refine ret_ret ?_
    refine fin0 ttok rfl rfl ?_
    exact ⟨⟨(wkP_refl _ rfl), (wkP_refl _ rfl), (wkP_refl _ rfl), (wkP_refl _ rfl), (wkP_refl _ rfl), (wkP_refl _ rfl), (wkP_refl _ rfl), (wkP_refl _ rfl), (wkP_refl _ rfl), (wkP_refl _ rfl), (wkP_refl _ rfl), wkP_nilm, (wkP_refl _ rfl), (wkP_refl _ rfl), (wkP_refl _ rfl), (wkP_refl _ rfl), (wkP_refl _ rfl), (wkP_refl _ rfl), trivial⟩, (wkP_refl _ rfl), trivial⟩
   ·rw [g11]
    replace h := of_bif_f h g11
    refine go_run' ttok 1 rfl ?_
    obtain ⟨e, hv13, h⟩ := of_obind h
    refine go_indexT I iv.1 12 e hv13 ttok rfl rfl rfl rfl rfl rfl rfl rfl rfl ?_
    refine go_run' ttok 4 rfl ?_
    refine go_gcase rfl rfl rfl (fun g14 => ?_) (fun g14 => ?_)
    ·rw [g14]
     replace h := of_bif_t h g14
     refine go_run' ttok 5 rfl ?_
     refine go_nil nd ?_
     refine then_norm ?_
     refine awp_cond rfl (fun tt0 => ?_) (fun h => by cases h)
     clear tt0
     refine awp_seq ?_
     refine awp_go hmix ?_
     refine go_run' ttok 3 rfl ?_
     refine go_nil nd ?_
     refine then_norm ?_
     refine awp_ret ?_
     refine then_ret ?_
     have e15 := of_some h
     subst e15
     refine ret_ret ?_
     refine fin0 ttok rfl rfl ?_
     exact ⟨⟨(wkP_refl _ rfl), (wkP_refl _ rfl), (wkP_refl _ rfl), (wkP_refl _ rfl), (wkP_refl _ rfl), (wkP_refl _ rfl), (wkP_refl _ rfl), (wkP_refl _ rfl), (wkP_refl _ rfl), (wkP_refl _ rfl), (wkP_refl _ rfl), wkP_nilm, (wkP_refl _ rfl), (wkP_refl _ rfl), (wkP_refl _ rfl), (wkP_refl _ rfl), (wkP_refl _ rfl), (wkP_refl _ rfl), trivial⟩, (wkP_refl _ rfl), trivial⟩
    ·rw [g14]
     replace h := of_bif_f h g14
     refine go_run' ttok 1 rfl ?_
     obtain ⟨e1, hv16, h⟩ := of_obind h
     refine go_indexT I iv.1 12 e1 hv16 ttok rfl rfl rfl rfl rfl rfl rfl rfl rfl ?_
     refine go_run' ttok 3 rfl ?_
     refine go_nil nd ?_
     refine then_norm ?_
     refine awp_cond (b := (decide (1 < e1))) rfl (fun c17 => ?_) (fun c17 => ?_)
     ·replace h := of_bif_t h c17
      refine awp_seq ?_
      refine awp_go hmix ?_
      refine go_run' ttok 3 rfl ?_
      refine go_nil nd ?_
      refine then_norm ?_
      refine awp_ret ?_
      refine then_ret ?_
      have e18 := of_some h
      subst e18
      refine ret_ret ?_
      refine fin0 ttok rfl rfl ?_
      exact ⟨⟨(wkP_refl _ rfl), (wkP_refl _ rfl), (wkP_refl _ rfl), (wkP_refl _ rfl), (wkP_refl _ rfl), (wkP_refl _ rfl), (wkP_refl _ rfl), (wkP_refl _ rfl), (wkP_refl _ rfl), (wkP_refl _ rfl), (wkP_refl _ rfl), wkP_nilm, (wkP_refl _ rfl), (wkP_refl _ rfl), (wkP_refl _ rfl), (wkP_refl _ rfl), (wkP_refl _ rfl), (wkP_refl _ rfl), trivial⟩, (wkP_refl _ rfl), trivial⟩
     ·replace h := of_bif_f h c17
      refine awp_skip ?_
      refine then_norm ?_
      refine awx_seq ?_
      refine awp_go hmix ?_
      refine go_run' ttok 1 rfl ?_
      obtain ⟨e2, hv19, h⟩ := of_obind h
      refine go_indexT I iv.1 0 e2 hv19 ttok rfl rfl rfl rfl rfl rfl rfl rfl rfl ?_
      refine go_run' ttok 3 rfl ?_
      refine go_nil nd ?_
      refine then_norm ?_
      refine awx_seq ?_
      refine awp_go hmix ?_
      refine go_run' ttok 1 rfl ?_
      obtain ⟨l, hv20, h⟩ := of_obind h
      refine go_sliceT I iv.1 l 1 7 hv20 (fun _ => rfl) ttok rfl rfl rfl rfl rfl rfl ⟨_, rfl⟩ ⟨_, rfl⟩ rfl ?_
      obtain ⟨tv3, hv21, h⟩ := of_obind h
      refine go_call fn64 (board_toBox_w l tv3 hv21) rfl rfl rfl rfl rfl rfl rfl ?_
      refine go_run' ttok 2 rfl ?_
      refine go_nil nd ?_
      refine then_norm ?_
      refine awx_seq ?_
      refine awp_go hmix ?_
      refine go_run' ttok 1 rfl ?_
      obtain ⟨e3, hv22, h⟩ := of_obind h
      refine go_indexT I iv.1 7 e3 hv22 ttok rfl rfl rfl rfl rfl rfl rfl rfl rfl ?_
      refine go_run' ttok 3 rfl ?_
      refine go_nil nd ?_
      refine then_norm ?_
      refine awx_seq ?_
      refine awp_go hmix ?_
      refine go_run' ttok 1 rfl ?_
      obtain ⟨e4, hv23, h⟩ := of_obind h
      refine go_indexT I iv.1 8 e4 hv23 ttok rfl rfl rfl rfl rfl rfl rfl rfl rfl ?_
      refine go_run' ttok 3 rfl ?_
      refine go_nil nd ?_
      refine then_norm ?_
      refine awx_seq ?_
      refine awp_go hmix ?_
      refine go_run' ttok 1 rfl ?_
      obtain ⟨e5, hv24, h⟩ := of_obind h
      refine go_indexT I iv.1 9 e5 hv24 ttok rfl rfl rfl rfl rfl rfl rfl rfl rfl ?_
      refine go_run' ttok 2 rfl ?_
      obtain ⟨e6, hv25, h⟩ := of_obind h
      refine go_indexT I iv.1 10 e6 hv25 ttok rfl rfl rfl rfl rfl rfl rfl rfl rfl ?_
      refine go_run' ttok 2 rfl ?_
      obtain ⟨e7, hv26, h⟩ := of_obind h
      refine go_indexT I iv.1 11 e7 hv26 ttok rfl rfl rfl rfl rfl rfl rfl rfl rfl ?_
      refine go_run' ttok 4 rfl ?_
      refine go_nil (fun _ => by kernel_rfl) ?_
      refine then_norm ?_
      refine awx_seq ?_
      refine awp_go hmix ?_
      refine go_run' ttok 1 rfl ?_
      obtain ⟨e8, hv27, h⟩ := of_obind h
      refine go_indexT I iv.1 12 e8 hv27 ttok rfl rfl rfl rfl rfl rfl rfl rfl rfl ?_
      refine go_run' ttok 4 rfl ?_
      refine go_nil nd ?_
      refine then_norm ?_
      refine awx_seq ?_
      refine awp_go hmix ?_
      refine go_run' ttok 1 rfl ?_
      obtain ⟨e9, hv28, h⟩ := of_obind h
      refine go_indexT I iv.1 13 e9 hv28 ttok rfl rfl rfl rfl rfl rfl rfl rfl rfl ?_
      refine go_run' ttok 3 rfl ?_
      refine go_nil nd ?_
      refine then_norm ?_
      obtain ⟨g29, h⟩ := of_grd h
      obtain ⟨L, hc30, h⟩ := of_obind h
      have hg1 : iv1.1.length % 7 = 0 ∧ iv1.1.length ≤ 2000000000000 := by simpa using g29
      refine awx_seq2 ?_
      refine awp_go hmix ?_
      refine go_run' ttok 1 rfl ?_
      refine go_callM (.clo 115 [] [.ref 700 0 0, .ref 701 0 0]) [] [(700, some ⟨59, 1, [encL I iv1.1]⟩), (701, some ⟨3, 1, [I 7]⟩)] [] [(700, some 999), (701, some 998)] fn65 (chunk_w iv1.1 7 rfl) rfl rfl rfl rfl rfl trivial ⟨wkP_refl _ rfl, wkP_refl _ rfl, trivial⟩ rfl rfl trivial rfl rfl ⟨⟨_, rfl, rfl, rfl, .inl ⟨rfl, nr_one rfl⟩⟩, ⟨_, rfl, rfl, rfl, .inl ⟨rfl, nr_one rfl⟩⟩, trivial⟩ ⟨rfl, trivial, ⟨rfl, rfl, rfl⟩, ⟨rfl, rfl, rfl⟩, trivial⟩ rfl (fun h => absurd rfl h) rfl rfl rfl ?_
      refine go_nil nd ?_
      refine then_norm ?_
      have hch : ∀ k, k ≤ iv1.1.length / 7 → board_Decode_ch iv1.1 k = some ((board_Decode_ch iv1.1 k).getD []) := fun k hk => by obtain ⟨L', h'⟩ := board_Decode_ch_le hc30 k hk; rw [h']; rfl
      refine awx2_chunk (N := iv1.1.length / 7) (d := iv1.1) (gf := 115) (X := 700) (Y := 701) (bb := 5) (rb := 2) (bs := 5) (rs := 2) (xs := 8) (fun k l => ⟨30, 18, [.agg [(S tv.1), (S tv1.1), (S tv2.1), (I e2), (I tv3.x.a), (I tv3.x.b), (I tv3.y.a), (I tv3.y.b), (I tv3.z.a), (I tv3.z.b), (I e3), .arr l 0 ((board_Decode_ch iv1.1 k).getD []).length, (I e4), (I e5), (I e6), (I e7), (B (e8 == 1)), (I e9)]]⟩) ⟨30, 18, [(.agg [(S (⟨#[]⟩ : ByteArray)), (S (⟨#[]⟩ : ByteArray)), (S (⟨#[]⟩ : ByteArray)), (I 0), (I 0), (I 0), (I 0), (I 0), (I 0), (I 0), (I 0), .nilS, (I 0), (I 0), (I 0), (I 0), (B false), (I 0)])]⟩ (fun k => ⟨71, 7, ((board_Decode_ch iv1.1 k).getD []).map encDf⟩) rfl rfl rfl rfl rfl (by decide) (by omega) (callFunc_ok fn115) (fun B1 B2 b off cap hcap => chunk_itr (by omega) hcap) (fun B1 B2 cap sa encs => chunk_itr0) ⟨⟨_, rfl, rfl, rfl, .inr ⟨⟨⟨wkP_id _ rfl, wkP_id _ rfl, wkP_id _ rfl, wkP_id _ rfl, wkP_id _ rfl, wkP_id _ rfl, wkP_id _ rfl, wkP_id _ rfl, wkP_id _ rfl, wkP_id _ rfl, wkP_id _ rfl, ⟨rfl, rfl, rfl⟩, wkP_id _ rfl, wkP_id _ rfl, wkP_id _ rfl, wkP_id _ rfl, wkP_id _ rfl, wkP_id _ rfl, trivial⟩, trivial⟩, ⟨rfl, trivial⟩⟩⟩, ⟨_, rfl, rfl, rfl, .inl ⟨rfl, nr_one rfl⟩⟩, rfl, trivial⟩ rfl ⟨⟨_, rfl, rfl, rfl, .inr ⟨⟨⟨wkP_id _ rfl, wkP_id _ rfl, wkP_id _ rfl, wkP_id _ rfl, wkP_id _ rfl, wkP_id _ rfl, wkP_id _ rfl, wkP_id _ rfl, wkP_id _ rfl, wkP_id _ rfl, wkP_id _ rfl, ⟨rfl, rfl, rfl⟩, wkP_id _ rfl, wkP_id _ rfl, wkP_id _ rfl, wkP_id _ rfl, wkP_id _ rfl, wkP_id _ rfl, trivial⟩, trivial⟩, ⟨rfl, trivial⟩⟩⟩, ⟨_, rfl, rfl, rfl, .inl ⟨rfl, nr_one rfl⟩⟩, ⟨_, rfl, rfl, rfl, wkX_map (enc := encDf) _ (fun _ => rfl)⟩, trivial⟩ (fun k hk => ⟨⟨_, rfl, rfl, rfl, .inr ⟨⟨⟨wkP_id _ rfl, wkP_id _ rfl, wkP_id _ rfl, wkP_id _ rfl, wkP_id _ rfl, wkP_id _ rfl, wkP_id _ rfl, wkP_id _ rfl, wkP_id _ rfl, wkP_id _ rfl, wkP_id _ rfl, ⟨rfl, rfl, rfl⟩, wkP_id _ rfl, wkP_id _ rfl, wkP_id _ rfl, wkP_id _ rfl, wkP_id _ rfl, wkP_id _ rfl, trivial⟩, trivial⟩, ⟨rfl, trivial⟩⟩⟩, ⟨_, rfl, rfl, rfl, .inl ⟨rfl, nr_one rfl⟩⟩, ⟨_, rfl, rfl, rfl, wkX_map (enc := encDf) _ (fun _ => rfl)⟩, trivial⟩) (by decide) (fun lp m W K tm htm hK => assign_round hK) ?_ ?_ (plainOp_spec rfl)
      ·intro k hk lim
       have hr : board_Decode_rd ((board_Decode_ch iv1.1 k).getD []) ((iv1.1.drop (7 * k)).take 7) = some ((board_Decode_ch iv1.1 (k + 1)).getD []) := by
        have h1 := hch (k + 1) (by omega)
        rw [← h1, board_Decode_ch, hch k (by omega)]
        rfl
       generalize (board_Decode_ch iv1.1 (k + 1)).getD [] = L1 at hr ⊢
       generalize ((board_Decode_ch iv1.1 k).getD []) = L at hr ⊢
       generalize (iv1.1.drop (7 * k)).take 7 = x at hr ⊢
       unfold board_Decode_rd at hr
       refine awr_block (awr_go hmix rfl ?_)
       refine go_run' ttok 3 rfl ?_
       obtain ⟨e10, hv31, hr⟩ := of_obind hr
       refine go_indexT I x 0 e10 hv31 ttok rfl rfl rfl rfl rfl rfl rfl rfl rfl ?_
       refine go_run' ttok 2 rfl ?_
       obtain ⟨l1, hv32, hr⟩ := of_obind hr
       refine go_sliceT I x l1 1 ((x.length : Nat) : Int) hv32 (fun _ => rfl) ttok rfl rfl rfl rfl rfl rfl ⟨_, rfl⟩ rfl rfl ?_
       obtain ⟨tv4, hv33, hr⟩ := of_obind hr
       refine go_call fn64 (board_toBox_w l1 tv4 hv33) rfl rfl rfl rfl rfl rfl rfl ?_
       refine go_run' ttok 2 rfl ?_
       obtain ⟨l2, hv34, hr⟩ := of_obind hr
       refine go_appT encDf L ([(⟨e10, tv4⟩ : Df)]) l2 hv34 (fun _ => rfl) (by first | rfl | (simp [setI]; done) | omega | (dsimp only; omega) | (simp [setI]; omega)) (by first | rfl | (simp [setI]; done) | omega | (dsimp only; omega) | (simp [setI]; omega)) ttok rfl rfl rfl rfl rfl rfl rfl rfl rfl rfl rfl rfl rfl rfl rfl rfl rfl ?_
       refine go_run' ttok 2 rfl ?_
       refine go_nil (fun _ => by kernel_rfl) ?_
       have e35 := of_some hr
       subst e35
       exact ⟨[(1000, some 1000), (1002, some 1002), (999, some 98)], rfl, rfl, ⟨_, rfl, rfl, rfl, .inr ⟨⟨⟨wkP_id _ rfl, wkP_id _ rfl, wkP_id _ rfl, wkP_id _ rfl, wkP_id _ rfl, wkP_id _ rfl, wkP_id _ rfl, wkP_id _ rfl, wkP_id _ rfl, wkP_id _ rfl, wkP_id _ rfl, ⟨rfl, rfl, (by first | rfl | (simp [setI]; done) | omega | (dsimp only; omega) | (simp [setI]; omega))⟩, wkP_id _ rfl, wkP_id _ rfl, wkP_id _ rfl, wkP_id _ rfl, wkP_id _ rfl, wkP_id _ rfl, trivial⟩, trivial⟩, ⟨rfl, trivial⟩⟩⟩, ⟨_, rfl, rfl, rfl, .inl ⟨rfl, nr_one rfl⟩⟩, ⟨_, rfl, rfl, rfl, wkX_map (enc := encDf) l2 (fun _ => rfl)⟩, trivial⟩
      ·rw [hch _ (Nat.le_refl _)] at hc30
       have hL := of_some hc30
       rw [hL]
       replace h := of_some h
       subst h
       refine go_run' ttok 3 rfl ?_
       refine go_nil nd ?_
       refine ⟨⟨101, [(2, .ref 1002 0 0), (3, I 0)], [(1002, some ⟨30, 18, [.agg [(S tv.1), (S tv1.1), (S tv2.1), (I e2), (I tv3.x.a), (I tv3.x.b), (I tv3.y.a), (I tv3.y.b), (I tv3.z.a), (I tv3.z.b), (I e3), encL encDf L, (I e4), (I e5), (I e6), (I e7), (B (e8 == 1)), (I e9)]]⟩)]⟩, wkF_one [(1101, some ⟨71, 7, L.map encDf⟩)] [(1002, some 1002)] rfl ⟨rfl, by decide, trivial⟩ ⟨wkP_id _ rfl, wkP_id _ rfl, trivial⟩ ⟨⟨_, rfl, rfl, rfl, .inr ⟨⟨⟨wkP_id _ rfl, wkP_id _ rfl, wkP_id _ rfl, wkP_id _ rfl, wkP_id _ rfl, wkP_id _ rfl, wkP_id _ rfl, wkP_id _ rfl, wkP_id _ rfl, wkP_id _ rfl, wkP_id _ rfl, (wkP_lend rfl rfl (fun _ => rfl)), wkP_id _ rfl, wkP_id _ rfl, wkP_id _ rfl, wkP_id _ rfl, wkP_id _ rfl, wkP_id _ rfl, trivial⟩, trivial⟩, ⟨rfl, trivial⟩⟩⟩, trivial⟩, ?_⟩
       refine fin0 ttok rfl rfl ?_
       exact ⟨wkP_refl _ rfl, wkP_refl _ rfl, trivial⟩
noncomputable def board_Decode_c (N : Nat) (s : ByteArray) : Option (TBoard × Int) :=
 (letB (wire_NewReader_g s) (fun nv => (Option.bind ((wire_Reader__Text_c N) nv 16) (fun tv => (Option.bind ((wire_Reader__Text_c N) tv.2 16) (fun tv1 => (Option.bind ((wire_Reader__Text_c N) tv1.2 16) (fun tv2 => (Option.bind ((wire_Reader__Ints_c N) tv2.2 14 (-1099511627776) 1099511627776) (fun iv => (Option.bind ((wire_Reader__Ints_c N) iv.2 448 (-1099511627776) 1099511627776) (fun iv1 => (bif ((wire_Reader__End_g iv1.2) != 0) then some ((⟨(⟨#[]⟩ : ByteArray), (⟨#[]⟩ : ByteArray), (⟨#[]⟩ : ByteArray), 0, (⟨(⟨0, 0⟩ : Sp), (⟨0, 0⟩ : Sp), (⟨0, 0⟩ : Sp)⟩ : Bx), 0, [], 0, (⟨0, 0, 0⟩ : TCell), false, 0⟩ : TBoard), 5) else (bif (((iv.1.length : Nat) : Int) != 14) then some ((⟨(⟨#[]⟩ : ByteArray), (⟨#[]⟩ : ByteArray), (⟨#[]⟩ : ByteArray), 0, (⟨(⟨0, 0⟩ : Sp), (⟨0, 0⟩ : Sp), (⟨0, 0⟩ : Sp)⟩ : Bx), 0, [], 0, (⟨0, 0, 0⟩ : TCell), false, 0⟩ : TBoard), 5) else (bif ((Int.tmod ((iv1.1.length : Nat) : Int) 7) != 0) then some ((⟨(⟨#[]⟩ : ByteArray), (⟨#[]⟩ : ByteArray), (⟨#[]⟩ : ByteArray), 0, (⟨(⟨0, 0⟩ : Sp), (⟨0, 0⟩ : Sp), (⟨0, 0⟩ : Sp)⟩ : Bx), 0, [], 0, (⟨0, 0, 0⟩ : TCell), false, 0⟩ : TBoard), 5) else (Option.bind (getI iv.1 12) (fun e => (bif (decide (e < 0)) then some ((⟨(⟨#[]⟩ : ByteArray), (⟨#[]⟩ : ByteArray), (⟨#[]⟩ : ByteArray), 0, (⟨(⟨0, 0⟩ : Sp), (⟨0, 0⟩ : Sp), (⟨0, 0⟩ : Sp)⟩ : Bx), 0, [], 0, (⟨0, 0, 0⟩ : TCell), false, 0⟩ : TBoard), 5) else (Option.bind (getI iv.1 12) (fun e1 => (bif (decide (1 < e1)) then some ((⟨(⟨#[]⟩ : ByteArray), (⟨#[]⟩ : ByteArray), (⟨#[]⟩ : ByteArray), 0, (⟨(⟨0, 0⟩ : Sp), (⟨0, 0⟩ : Sp), (⟨0, 0⟩ : Sp)⟩ : Bx), 0, [], 0, (⟨0, 0, 0⟩ : TCell), false, 0⟩ : TBoard), 5) else (Option.bind (getI iv.1 0) (fun e2 => (Option.bind (subO iv.1 1 7) (fun l => (Option.bind ((board_toBox_c N) l) (fun tv3 => (Option.bind (getI iv.1 7) (fun e3 => (Option.bind (getI iv.1 8) (fun e4 => (Option.bind (getI iv.1 9) (fun e5 => (Option.bind (getI iv.1 10) (fun e6 => (Option.bind (getI iv.1 11) (fun e7 => (Option.bind (getI iv.1 12) (fun e8 => (Option.bind (getI iv.1 13) (fun e9 => (bif (iv1.1.length % 7 == 0 && decide (iv1.1.length ≤ 2000000000000)) then (Option.bind (board_Decode_ch iv1.1 (iv1.1.length / 7)) (fun L => some ((⟨tv.1, tv1.1, tv2.1, e2, tv3, e3, L, e4, (⟨e5, e6, e7⟩ : TCell), (e8 == 1), e9⟩ : TBoard), 0))) else none))))))))))))))))))))))))))))))))))))))))))
theorem board_Decode_le (N : Nat) (s : ByteArray) : OLe (board_Decode_c N s) (board_Decode_g s) := by
 unfold board_Decode_c board_Decode_g
 repeat' (first | exact ole_rfl | exact wire_Reader__Text_le _ _ _ | exact wire_Reader__Ints_le _ _ _ _ _ | exact board_toBox_le _ _ | refine ole_bif ?_ ?_ | refine ole_bind ?_ (fun _ => ?_) | refine ole_let (fun _ => ?_) | refine ole_map ?_ | refine ole_elim (fun _ => ?_) (fun _ => ?_) | refine ole_loop (fun _ => ?_))
end Go.Proofs.YtpoehckffpbfiaaGreat
