/- A1e: what functions of the program compute (written by mod.py). -/
import Derived.Test.YtcimnopodmnmmaaA1d
import Derived.KernelRfl
namespace Go.Proofs.Ytcimnopodmnmmaa
open Go Go.Ab
set_option linter.unusedSimpArgs false
set_option linter.unusedVariables false
set_option linter.unusedSectionVars false
set_option maxRecDepth 20000
set_option maxHeartbeats 1000000

noncomputable def r27_given_s1 (b : TBoard) (c : (List TProduct)) (products : (List Int)) (gv : (Int × Int)) (x2 : Bool) (thick1 : Int) (parts1 : (List Int)) (i : Int) : Option ((Bool × Int × (List Int) × Int) ⊕ ((Bool × Int × (List Int) × Int) ⊕ (Bool × Int × (List Int)))) :=
 (bif (decide (i < ((products.length : Nat) : Int))) then (Option.bind (getI products i) (fun e1 => (bif (decide (e1 < 0)) then some (Sum.inr (Sum.inl (false, 0, [], 8))) else (Option.bind (getI products i) (fun e2 => (bif (decide (((c.length : Nat) : Int) ≤ e2)) then some (Sum.inr (Sum.inl (false, 0, [], 8))) else (Option.bind (getI products i) (fun e3 => (Option.bind (getI c e3) (fun e4 => (letB (r19_Green_g e4) (fun gv1 => (Option.bind (getI products i) (fun e5 => (Option.bind (getI c e5) (fun e6 => (Option.bind (r19_Price_g e6 (r27_size_g b.Box.z)) (fun pv => (bif (gv1.2 != gv.2) then some (Sum.inr (Sum.inl (false, 0, [], 20))) else (bif (!pv.2) then some (Sum.inr (Sum.inl (false, 0, [], 20))) else (Option.bind (appO 8 parts1 ([gv1.1])) (fun l => some (Sum.inl (x2, thick1, l, (W64 (i + 1)))))))))))))))))))))))))) else some (Sum.inr (Sum.inr (x2, thick1, parts1))))
/-- sawmill/sawmillref27.given -/
noncomputable def r27_given_g (b : TBoard) (c : (List TProduct)) (products : (List Int)) (kerf : Int) : Option (Bool × Int × (List Int) × Int) :=
 (Option.bind (r19_Check_g c) (fun cv => (bif (cv != 0) then some (false, 0, [], cv) else (bif (decide (b.Product < 0)) then some (false, 0, [], 8) else (bif (decide (((c.length : Nat) : Int) ≤ b.Product)) then some (false, 0, [], 8) else (bif (!(r27_wide_g b.Box.x)) then some (false, 0, [], 9) else (bif (!(r27_wide_g b.Box.y)) then some (false, 0, [], 9) else (bif (!(r27_along_g b.Box.z.a)) then some (false, 0, [], 9) else (bif (!(r27_along_g b.Box.z.b)) then some (false, 0, [], 9) else (bif (decide (b.Box.z.b ≤ b.Box.z.a)) then some (false, 0, [], 19) else (Option.bind (r13_Check_g b.Defects) (fun cv1 => (bif (cv1 != 0) then some (false, 0, [], cv1) else (Option.bind (getI c b.Product) (fun e => (letB (r19_Green_g e) (fun gv => (letB ((bif ((r27_size_g b.Box.x) == gv.1) then ((r27_size_g b.Box.y) == gv.2) else false) : Bool) (fun x => (Option.bind ((bif (!x) then (bif ((r27_size_g b.Box.y) != gv.1) then some (Sum.inl (false, 0, [], 20)) else (bif ((r27_size_g b.Box.x) != gv.2) then some (Sum.inl (false, 0, [], 20)) else some (Sum.inr ()))) else some (Sum.inr ())) : Option ((Bool × Int × (List Int) × Int) ⊕ Unit)) (Sum.elim (fun q => some q) (fun _ => (Option.bind ((loopO (fun q => r27_given_s1 b c products gv q.1 q.2.1 q.2.2.1 q.2.2.2) (x, gv.1, [], 0)) : Option ((Bool × Int × (List Int) × Int) ⊕ (Bool × Int × (List Int)))) (Sum.elim (fun q => some q) (fun w3 => (Option.bind (r27_Check_g w3.2.1 kerf w3.2.2) (fun cv2 => some (w3.1, w3.2.1, w3.2.2, cv2))))))))))))))))))))))))))))
theorem r27_given_w (b : TBoard) (c : (List TProduct)) (products : (List Int)) (kerf : Int) (r : (Bool × Int × (List Int) × Int)) (h : r27_given_g b c products kerf = some r) : Holds Try.prog 39 [(encTBoard b), ((encL encTProduct) c), ((encL I) products), (I kerf)] [] (.tup [(B r.1), (I r.2.1), ((encL I) r.2.2.1), (I r.2.2.2)]) [] := by
 unfold r27_given_g at h
 refine holds_fn Try.func39 rfl Try.ntmps39 rfl rfl rfl (fun lim => ?_)
 refine awp_seq (awp_go hmix (go_run' ttok 5 rfl (go_nil nd (then_norm (awp_seq (awp_seq (awp_go hmix (go_run' ttok 1 rfl ?_))))))))
 obtain ⟨cv, hv1, h⟩ := of_obind h
 refine go_call fn53 (r19_Check_w c cv hv1) rfl rfl rfl rfl rfl rfl rfl ?_
 refine go_run' ttok 1 rfl (go_nil nd (then_norm (awp_seq (awp_go hmix (go_run' ttok 2 rfl (go_nil nd (then_norm ?_)))))))
 refine awp_cond (b := (cv != 0)) rfl (fun c2 => ?_) (fun c2 => ?_)
 ·replace h := of_bif_t h c2
  refine awp_seq (awp_go hmix (go_run' ttok 5 rfl (go_nil nd (then_norm (awp_ret (then_ret ?_))))))
  have e3 := of_some h
  subst e3
  refine ret_ret ?_
  refine fin0 ttok rfl rfl ?_
  exact ⟨(wkP_refl _ rfl), (wkP_refl _ rfl), wkP_nilm, (wkP_refl _ rfl), trivial⟩
 ·replace h := of_bif_f h c2
  refine awp_skip (then_norm (awp_seq (awp_seq (awp_go hmix (go_run' ttok 4 rfl ?_)))))
  refine go_gcase rfl rfl rfl (fun g4 => ?_) (fun g4 => ?_)
  ·rw [g4]
   replace h := of_bif_t h g4
   refine go_run' ttok 6 rfl (go_nil nd (then_norm ?_))
   refine awp_cond rfl (fun tt0 => ?_) (fun h => by cases h)
   clear tt0
   refine awp_seq (awp_go hmix (go_run' ttok 4 rfl (go_nil nd (then_norm (awp_ret (then_ret ?_))))))
   have e5 := of_some h
   subst e5
   refine ret_ret ?_
   refine fin0 ttok rfl rfl ?_
   exact ⟨(wkP_refl _ rfl), (wkP_refl _ rfl), wkP_nilm, (wkP_refl _ rfl), trivial⟩
  ·rw [g4]
   replace h := of_bif_f h g4
   refine go_run' ttok 3 rfl ?_
   refine go_lenT encTProduct c ttok rfl rfl rfl rfl rfl rfl ?_
   refine go_run' ttok 2 rfl (go_nil nd (then_norm ?_))
   refine awp_cond (b := (decide (((c.length : Nat) : Int) ≤ b.Product))) rfl (fun c6 => ?_) (fun c6 => ?_)
   ·replace h := of_bif_t h c6
    refine awp_seq (awp_go hmix (go_run' ttok 4 rfl (go_nil nd (then_norm (awp_ret (then_ret ?_))))))
    have e7 := of_some h
    subst e7
    refine ret_ret ?_
    refine fin0 ttok rfl rfl ?_
    exact ⟨(wkP_refl _ rfl), (wkP_refl _ rfl), wkP_nilm, (wkP_refl _ rfl), trivial⟩
   ·replace h := of_bif_f h c6
    refine awp_skip (then_norm (awp_seq (awp_seq (awp_go hmix (go_run' ttok 3 rfl ?_)))))
    refine go_call fn54 (r27_wide_w b.Box.x _ rfl) rfl rfl rfl rfl rfl rfl rfl ?_
    refine go_run' ttok 2 rfl ?_
    refine go_gcase rfl rfl rfl (fun g8 => ?_) (fun g8 => ?_)
    ·rw [g8]
     replace h := of_bif_t h g8
     refine go_run' ttok 22 rfl (go_nil nd (then_norm ?_))
     refine awp_cond rfl (fun tt0 => ?_) (fun h => by cases h)
     clear tt0
     refine awp_seq (awp_go hmix (go_run' ttok 4 rfl (go_nil nd (then_norm (awp_ret (then_ret ?_))))))
     have e9 := of_some h
     subst e9
     refine ret_ret ?_
     refine fin0 ttok rfl rfl ?_
     exact ⟨(wkP_refl _ rfl), (wkP_refl _ rfl), wkP_nilm, (wkP_refl _ rfl), trivial⟩
    ·rw [g8]
     replace h := of_bif_f h g8
     refine go_run' ttok 3 rfl ?_
     refine go_call fn54 (r27_wide_w b.Box.y _ rfl) rfl rfl rfl rfl rfl rfl rfl ?_
     refine go_run' ttok 3 rfl ?_
     refine go_gcase rfl rfl rfl (fun g10 => ?_) (fun g10 => ?_)
     ·rw [g10]
      replace h := of_bif_t h g10
      refine go_run' ttok 15 rfl (go_nil nd (then_norm ?_))
      refine awp_cond rfl (fun tt0 => ?_) (fun h => by cases h)
      clear tt0
      refine awp_seq (awp_go hmix (go_run' ttok 4 rfl (go_nil nd (then_norm (awp_ret (then_ret ?_))))))
      have e11 := of_some h
      subst e11
      refine ret_ret ?_
      refine fin0 ttok rfl rfl ?_
      exact ⟨(wkP_refl _ rfl), (wkP_refl _ rfl), wkP_nilm, (wkP_refl _ rfl), trivial⟩
     ·rw [g10]
      replace h := of_bif_f h g10
      refine go_run' ttok 4 rfl ?_
      refine go_call fn55 (r27_along_w b.Box.z.a _ rfl) rfl rfl rfl rfl rfl rfl rfl ?_
      refine go_run' ttok 3 rfl ?_
      refine go_gcase rfl rfl rfl (fun g12 => ?_) (fun g12 => ?_)
      ·rw [g12]
       replace h := of_bif_t h g12
       refine go_run' ttok 7 rfl (go_nil nd (then_norm ?_))
       refine awp_cond rfl (fun tt0 => ?_) (fun h => by cases h)
       clear tt0
       refine awp_seq (awp_go hmix (go_run' ttok 4 rfl (go_nil nd (then_norm (awp_ret (then_ret ?_))))))
       have e13 := of_some h
       subst e13
       refine ret_ret ?_
       refine fin0 ttok rfl rfl ?_
       exact ⟨(wkP_refl _ rfl), (wkP_refl _ rfl), wkP_nilm, (wkP_refl _ rfl), trivial⟩
      ·rw [g12]
       replace h := of_bif_f h g12
       refine go_run' ttok 4 rfl ?_
       refine go_call fn55 (r27_along_w b.Box.z.b _ rfl) rfl rfl rfl rfl rfl rfl rfl ?_
       refine go_run' ttok 2 rfl (go_nil nd (then_norm ?_))
       refine awp_cond (b := (!(r27_along_g b.Box.z.b))) rfl (fun c14 => ?_) (fun c14 => ?_)
       ·replace h := of_bif_t h c14
        refine awp_seq (awp_go hmix (go_run' ttok 4 rfl (go_nil nd (then_norm (awp_ret (then_ret ?_))))))
        have e15 := of_some h
        subst e15
        refine ret_ret ?_
        refine fin0 ttok rfl rfl ?_
        exact ⟨(wkP_refl _ rfl), (wkP_refl _ rfl), wkP_nilm, (wkP_refl _ rfl), trivial⟩
       ·replace h := of_bif_f h c14
        refine awp_skip (then_norm (awp_seq (awp_seq (awp_go hmix (go_run' ttok 9 rfl (go_nil nd (then_norm ?_)))))))
        refine awp_cond (b := (decide (b.Box.z.b ≤ b.Box.z.a))) rfl (fun c16 => ?_) (fun c16 => ?_)
        ·replace h := of_bif_t h c16
         refine awp_seq (awp_go hmix (go_run' ttok 4 rfl (go_nil nd (then_norm (awp_ret (then_ret ?_))))))
         have e17 := of_some h
         subst e17
         refine ret_ret ?_
         refine fin0 ttok rfl rfl ?_
         exact ⟨(wkP_refl _ rfl), (wkP_refl _ rfl), wkP_nilm, (wkP_refl _ rfl), trivial⟩
        ·replace h := of_bif_f h c16
         refine awp_skip (then_norm (awp_seq (awp_seq (awp_go hmix (go_run' ttok 2 rfl ?_)))))
         obtain ⟨cv1, hv18, h⟩ := of_obind h
         refine go_call fn56 (r13_Check_w b.Defects cv1 hv18) rfl rfl rfl rfl rfl rfl rfl ?_
         refine go_run' ttok 1 rfl (go_nil nd (then_norm (awp_seq (awp_go hmix (go_run' ttok 2 rfl (go_nil nd (then_norm ?_)))))))
         refine awp_cond (b := (cv1 != 0)) rfl (fun c19 => ?_) (fun c19 => ?_)
         ·replace h := of_bif_t h c19
          refine awp_seq (awp_go hmix (go_run' ttok 5 rfl (go_nil nd (then_norm (awp_ret (then_ret ?_))))))
          have e20 := of_some h
          subst e20
          refine ret_ret ?_
          refine fin0 ttok rfl rfl ?_
          exact ⟨(wkP_refl _ rfl), (wkP_refl _ rfl), wkP_nilm, (wkP_refl _ rfl), trivial⟩
         ·replace h := of_bif_f h c19
          refine awp_skip (then_norm (awp_seq (awp_go hmix (go_run' ttok 3 rfl ?_))))
          obtain ⟨e, hv21, h⟩ := of_obind h
          refine go_indexT encTProduct c b.Product e hv21 ttok rfl rfl rfl rfl rfl rfl rfl rfl rfl ?_
          refine go_run' ttok 1 rfl ?_
          obtain ⟨gv, hv22, h⟩ := of_let h
          refine go_call fn57 (r19_Green_w e gv hv22) rfl rfl rfl rfl rfl rfl rfl ?_
          refine go_run' ttok 5 rfl (go_nil nd (then_norm ?_))
          obtain ⟨y, hx23, h⟩ := of_let h
          refine awp_seqJ (X := Bool) [1, 2, 3, 4, 9, 10, 14] [4] (fun w => [(8, (B w))]) (fun w => []) (fun w => w = y) rfl rfl ?_ ?_
          ·skip
           refine awp_go hmix (go_run' ttok 3 rfl ?_)
           refine go_call fn40 (r27_size_w b.Box.x _ rfl) rfl rfl rfl rfl rfl rfl rfl ?_
           refine go_run' ttok 3 rfl ?_
           refine go_gcase rfl rfl rfl (fun g25 => ?_) (fun g25 => ?_)
           ·rw [g25]
            replace hx23 := of_bif_t hx23 g25
            refine go_run' ttok 3 rfl ?_
            refine go_call fn40 (r27_size_w b.Box.y _ rfl) rfl rfl rfl rfl rfl rfl rfl ?_
            refine go_run' ttok 4 rfl (go_nil nd ?_)
            have e26 := hx23
            refine then_norm ⟨rfl, ((r27_size_g b.Box.y) == gv.2), [(4, some 4)], ⟨rfl, rfl, rfl, rfl, rfl, ⟨wkP_id _ rfl, trivial⟩, trivial⟩, e26⟩
           ·rw [g25]
            replace hx23 := of_bif_f hx23 g25
            refine go_run' ttok 8 rfl (go_nil nd ?_)
            have e27 := hx23
            refine then_norm ⟨rfl, false, [(4, some 4)], ⟨rfl, rfl, rfl, rfl, rfl, ⟨wkP_id _ rfl, trivial⟩, trivial⟩, e27⟩
          ·intro x hw24
           subst hw24
           obtain ⟨y1, hx28, h⟩ := of_obind h
           refine awp_seqJ (X := Unit) [1, 2, 3, 4, 14] [4] (fun _ => [(8, (B x)), (9, (I gv.1)), (10, .nilS)]) (fun _ => []) (fun w1 => Sum.inr w1 = y1) rfl rfl ?_ ?_
           ·skip
            refine awp_seq (awp_go hmix (go_run' ttok 3 rfl ?_))
            refine go_gcase rfl rfl rfl (fun g30 => ?_) (fun g30 => ?_)
            ·rw [g30]
             replace hx28 := of_bif_t hx28 g30
             refine go_run' ttok 3 rfl ?_
             refine go_call fn40 (r27_size_w b.Box.y _ rfl) rfl rfl rfl rfl rfl rfl rfl ?_
             refine go_run' ttok 3 rfl ?_
             refine go_gcase rfl rfl rfl (fun g31 => ?_) (fun g31 => ?_)
             ·rw [g31]
              replace hx28 := of_bif_t hx28 g31
              refine go_run' ttok 8 rfl (go_nil nd (then_norm ?_))
              refine awp_cond rfl (fun tt0 => ?_) (fun h => by cases h)
              clear tt0
              refine awp_seq (awp_go hmix (go_run' ttok 4 rfl (go_nil nd (then_norm (awp_ret ?_)))))
              obtain ⟨t, hn32, hq⟩ := of_mapl' hx28
              subst hq
              have hq := of_inl h
              replace hq := of_some hq
              subst hq
              refine then_ret ?_
              have e33 := of_some hn32
              subst e33
              refine ret_ret ?_
              refine fin0 ttok rfl rfl ?_
              exact ⟨(wkP_refl _ rfl), (wkP_refl _ rfl), wkP_nilm, (wkP_refl _ rfl), trivial⟩
             ·rw [g31]
              replace hx28 := of_bif_f hx28 g31
              refine go_run' ttok 3 rfl ?_
              refine go_call fn40 (r27_size_w b.Box.x _ rfl) rfl rfl rfl rfl rfl rfl rfl ?_
              refine go_run' ttok 4 rfl (go_nil nd (then_norm ?_))
              refine awp_cond (b := ((r27_size_g b.Box.x) != gv.2)) rfl (fun c34 => ?_) (fun c34 => ?_)
              ·replace hx28 := of_bif_t hx28 c34
               refine awp_seq (awp_go hmix (go_run' ttok 4 rfl (go_nil nd (then_norm (awp_ret ?_)))))
               obtain ⟨t1, hn35, hq⟩ := of_mapl' hx28
               subst hq
               have hq := of_inl h
               replace hq := of_some hq
               subst hq
               refine then_ret ?_
               have e36 := of_some hn35
               subst e36
               refine ret_ret ?_
               refine fin0 ttok rfl rfl ?_
               exact ⟨(wkP_refl _ rfl), (wkP_refl _ rfl), wkP_nilm, (wkP_refl _ rfl), trivial⟩
              ·replace hx28 := of_bif_f hx28 c34
               refine awp_skip ?_
               have e37 := of_some hx28
               refine then_norm ⟨rfl, (), [(4, some 4)], ⟨rfl, rfl, rfl, rfl, rfl, ⟨wkP_id _ rfl, wkP_id _ rfl, wkP_id _ rfl, trivial⟩, trivial⟩, e37⟩
            ·rw [g30]
             replace hx28 := of_bif_f hx28 g30
             refine go_run' ttok 15 rfl (go_nil nd (then_norm ?_))
             refine awp_cond rfl (fun h => by cases h) (fun tt0 => ?_)
             clear tt0
             refine awp_skip ?_
             have e38 := of_some hx28
             refine then_norm ⟨rfl, (), [(4, some 4)], ⟨rfl, rfl, rfl, rfl, rfl, ⟨wkP_id _ rfl, wkP_id _ rfl, wkP_id _ rfl, trivial⟩, trivial⟩, e38⟩
           ·intro w1 hw29
            subst hw29
            replace h := of_inr h
            obtain ⟨y2, hx39, h⟩ := of_obind h
            refine awp_seqJ (X := (Bool × Int × (List Int))) [3] [] (fun w2 => [(8, (B w2.1)), (9, (I w2.2.1)), (10, (.arr 10 0 w2.2.2.length))]) (fun w2 => [(10, some ⟨3, 1, w2.2.2.map I⟩)]) (fun w2 => Sum.inr w2 = y2) rfl rfl ?_ ?_
            ·skip
             refine awp_seq (awp_go hmix (go_run' ttok 1 rfl (go_nil nd (then_norm (awp_block ?_)))))
             refine awp_loopD (X := (Bool × Int × (List Int) × Int)) (Y := ((Bool × Int × (List Int) × Int) ⊕ (Bool × Int × (List Int)))) [1, 2, 3, 4, 14] [4] (fun q => [(8, (B q.1)), (9, (I q.2.1)), (10, (.arr 10 0 q.2.2.1.length)), (15, (I q.2.2.2))]) (fun q => [(10, some ⟨3, 1, q.2.2.1.map I⟩)]) (fun q => r27_given_s1 b c products gv q.1 q.2.1 q.2.2.1 q.2.2.2) (x, gv.1, [], 0) [(10, none), (4, some 4)] hx39 ⟨rfl, rfl, rfl, rfl, rfl, ⟨wkP_id _ rfl, wkP_id _ rfl, ⟨rfl, rfl, (by first | rfl | (simp [setI]; done) | omega | (dsimp only; omega) | (simp [setI]; omega))⟩, wkP_id _ rfl, trivial⟩, ⟨rfl, trivial⟩⟩ (fun x3 vR vz hz41 hk42 => ?_)
             obtain ⟨x2, thick1, parts1, i⟩ := x3
             change r27_given_s1 b c products gv x2 thick1 parts1 i = _ at hz41
             unfold r27_given_s1 at hz41
             refine awp_seq (awp_seq (awp_go hmix (go_run' ttok 2 rfl ?_)))
             refine go_lenT I products ttok rfl rfl rfl rfl rfl rfl ?_
             refine go_run' ttok 1 rfl (go_nil nd (then_norm ?_))
             refine awp_cond (b := (decide (i < ((products.length : Nat) : Int)))) rfl (fun c43 => ?_) (fun c43 => ?_)
             ·replace hz41 := of_bif_t hz41 c43
              refine awp_skip (then_norm (awp_seq (awp_block (awp_seq (awp_seq (awp_go hmix (go_run' ttok 2 rfl ?_)))))))
              obtain ⟨e1, hv44, hz41⟩ := of_obind hz41
              refine go_indexT I products i e1 hv44 ttok rfl rfl rfl rfl rfl rfl rfl rfl rfl ?_
              refine go_run' ttok 3 rfl ?_
              refine go_gcase rfl rfl rfl (fun g45 => ?_) (fun g45 => ?_)
              ·rw [g45]
               replace hz41 := of_bif_t hz41 g45
               refine go_run' ttok 8 rfl (go_nil nd (then_norm ?_))
               refine awp_cond rfl (fun tt0 => ?_) (fun h => by cases h)
               clear tt0
               refine awp_seq (awp_go hmix (go_run' ttok 4 rfl (go_nil nd (then_norm (awp_ret (then_ret (block_ret (then_ret ?_))))))))
               obtain ⟨t2, hn46, hq⟩ := of_mapr' hz41
               subst hq
               have hq : t2 = _ := hk42
               subst hq
               refine then_ret (block_ret ?_)
               obtain ⟨t3, hn47, hq⟩ := of_mapl' hn46
               subst hq
               have hq := of_inl h
               replace hq := of_some hq
               subst hq
               refine then_ret ?_
               have e48 := of_some hn47
               subst e48
               refine ret_ret ?_
               refine fin0 ttok rfl rfl ?_
               exact ⟨(wkP_refl _ rfl), (wkP_refl _ rfl), wkP_nilm, (wkP_refl _ rfl), trivial⟩
              ·rw [g45]
               replace hz41 := of_bif_f hz41 g45
               refine go_run' ttok 2 rfl ?_
               obtain ⟨e2, hv49, hz41⟩ := of_obind hz41
               refine go_indexT I products i e2 hv49 ttok rfl rfl rfl rfl rfl rfl rfl rfl rfl ?_
               refine go_run' ttok 2 rfl ?_
               refine go_lenT encTProduct c ttok rfl rfl rfl rfl rfl rfl ?_
               refine go_run' ttok 2 rfl (go_nil nd (then_norm ?_))
               refine awp_cond (b := (decide (((c.length : Nat) : Int) ≤ e2))) rfl (fun c50 => ?_) (fun c50 => ?_)
               ·replace hz41 := of_bif_t hz41 c50
                refine awp_seq (awp_go hmix (go_run' ttok 4 rfl (go_nil nd (then_norm (awp_ret (then_ret (block_ret (then_ret ?_))))))))
                obtain ⟨t4, hn51, hq⟩ := of_mapr' hz41
                subst hq
                have hq : t4 = _ := hk42
                subst hq
                refine then_ret (block_ret ?_)
                obtain ⟨t5, hn52, hq⟩ := of_mapl' hn51
                subst hq
                have hq := of_inl h
                replace hq := of_some hq
                subst hq
                refine then_ret ?_
                have e53 := of_some hn52
                subst e53
                refine ret_ret ?_
                refine fin0 ttok rfl rfl ?_
                exact ⟨(wkP_refl _ rfl), (wkP_refl _ rfl), wkP_nilm, (wkP_refl _ rfl), trivial⟩
               ·replace hz41 := of_bif_f hz41 c50
                refine awp_skip (then_norm (awp_seq (awp_go hmix (go_run' ttok 3 rfl ?_))))
                obtain ⟨e3, hv54, hz41⟩ := of_obind hz41
                refine go_indexT I products i e3 hv54 ttok rfl rfl rfl rfl rfl rfl rfl rfl rfl ?_
                refine go_run' ttok 1 rfl ?_
                obtain ⟨e4, hv55, hz41⟩ := of_obind hz41
                refine go_indexT encTProduct c e3 e4 hv55 ttok rfl rfl rfl rfl rfl rfl rfl rfl rfl ?_
                refine go_run' ttok 1 rfl ?_
                obtain ⟨gv1, hv56, hz41⟩ := of_let hz41
                refine go_call fn57 (r19_Green_w e4 gv1 hv56) rfl rfl rfl rfl rfl rfl rfl ?_
                refine go_run' ttok 5 rfl (go_nil nd (then_norm (awp_seq (awp_go hmix (go_run' ttok 3 rfl ?_)))))
                obtain ⟨e5, hv57, hz41⟩ := of_obind hz41
                refine go_indexT I products i e5 hv57 ttok rfl rfl rfl rfl rfl rfl rfl rfl rfl ?_
                refine go_run' ttok 1 rfl ?_
                obtain ⟨e6, hv58, hz41⟩ := of_obind hz41
                refine go_indexT encTProduct c e5 e6 hv58 ttok rfl rfl rfl rfl rfl rfl rfl rfl rfl ?_
                refine go_run' ttok 4 rfl ?_
                refine go_call fn40 (r27_size_w b.Box.z _ rfl) rfl rfl rfl rfl rfl rfl rfl ?_
                obtain ⟨pv, hv59, hz41⟩ := of_obind hz41
                refine go_call fn58 (r19_Price_w e6 (r27_size_g b.Box.z) pv hv59) rfl rfl rfl rfl rfl rfl rfl ?_
                refine go_run' ttok 5 rfl ?_
                refine go_nil (fun _ => by kernel_rfl) ?_
                refine then_norm (awp_seq (awp_seq (awp_go hmix (go_run' ttok 4 rfl ?_))))
                refine go_gcase rfl rfl rfl (fun g60 => ?_) (fun g60 => ?_)
                ·rw [g60]
                 replace hz41 := of_bif_t hz41 g60
                 refine go_run' ttok 3 rfl (go_nil nd (then_norm ?_))
                 refine awp_cond rfl (fun tt0 => ?_) (fun h => by cases h)
                 clear tt0
                 refine awp_seq (awp_go hmix (go_run' ttok 4 rfl (go_nil nd (then_norm (awp_ret (then_ret (block_ret (then_ret ?_))))))))
                 obtain ⟨t6, hn61, hq⟩ := of_mapr' hz41
                 subst hq
                 have hq : t6 = _ := hk42
                 subst hq
                 refine then_ret (block_ret ?_)
                 obtain ⟨t7, hn62, hq⟩ := of_mapl' hn61
                 subst hq
                 have hq := of_inl h
                 replace hq := of_some hq
                 subst hq
                 refine then_ret ?_
                 have e63 := of_some hn62
                 subst e63
                 refine ret_ret ?_
                 refine fin0 ttok rfl rfl ?_
                 exact ⟨(wkP_refl _ rfl), (wkP_refl _ rfl), wkP_nilm, (wkP_refl _ rfl), trivial⟩
                ·rw [g60]
                 replace hz41 := of_bif_f hz41 g60
                 refine go_run' ttok 3 rfl (go_nil nd (then_norm ?_))
                 refine awp_cond (b := (!pv.2)) rfl (fun c64 => ?_) (fun c64 => ?_)
                 ·replace hz41 := of_bif_t hz41 c64
                  refine awp_seq (awp_go hmix (go_run' ttok 4 rfl (go_nil nd (then_norm (awp_ret (then_ret (block_ret (then_ret ?_))))))))
                  obtain ⟨t8, hn65, hq⟩ := of_mapr' hz41
                  subst hq
                  have hq : t8 = _ := hk42
                  subst hq
                  refine then_ret (block_ret ?_)
                  obtain ⟨t9, hn66, hq⟩ := of_mapl' hn65
                  subst hq
                  have hq := of_inl h
                  replace hq := of_some hq
                  subst hq
                  refine then_ret ?_
                  have e67 := of_some hn66
                  subst e67
                  refine ret_ret ?_
                  refine fin0 ttok rfl rfl ?_
                  exact ⟨(wkP_refl _ rfl), (wkP_refl _ rfl), wkP_nilm, (wkP_refl _ rfl), trivial⟩
                 ·replace hz41 := of_bif_f hz41 c64
                  refine awp_skip (then_norm (awp_go hmix (go_run' ttok 3 rfl ?_)))
                  obtain ⟨l, hv68, hz41⟩ := of_obind hz41
                  refine go_appT I parts1 ([gv1.1]) l hv68 (fun _ => rfl) (by first | rfl | (simp [setI]; done) | omega | (dsimp only; omega) | (simp [setI]; omega)) (by first | rfl | (simp [setI]; done) | omega | (dsimp only; omega) | (simp [setI]; omega)) ttok rfl rfl rfl rfl rfl rfl rfl rfl rfl rfl rfl rfl rfl rfl rfl rfl rfl ?_
                  refine go_run' ttok 1 rfl (go_nil nd (block_norm (then_norm (awp_go hmix (go_run' ttok 3 rfl (go_nil nd ?_))))))
                  have e69 := of_some hz41
                  subst e69
                  refine then_norm ⟨rfl, (x2, thick1, l, (W64 (i + 1))), [(10, some 175), (4, some 4)], ⟨rfl, rfl, rfl, rfl, rfl, ⟨wkP_id _ rfl, wkP_id _ rfl, ⟨rfl, rfl, (by first | rfl | (simp [setI]; done) | omega | (dsimp only; omega) | (simp [setI]; omega))⟩, wkP_id _ rfl, trivial⟩, ⟨⟨_, rfl, rfl, rfl, wkX_map (enc := I) l (fun _ => rfl)⟩, trivial⟩⟩, hk42⟩
             ·replace hz41 := of_bif_f hz41 c43
              refine awp_exit (then_exit ?_)
              obtain ⟨t10, hn70, hq⟩ := of_mapr' hz41
              subst hq
              have hq : t10 = _ := hk42
              subst hq
              refine then_exit (block_here ?_)
              have e71 := of_some hn70
              refine then_norm ⟨rfl, (x2, thick1, parts1), [(10, some 10)], ⟨rfl, rfl, rfl, rfl, rfl, ⟨wkP_id _ rfl, wkP_id _ rfl, ⟨rfl, rfl, (by first | rfl | (simp [setI]; done) | omega | (dsimp only; omega) | (simp [setI]; omega))⟩, trivial⟩, ⟨⟨_, rfl, rfl, rfl, wkX_map (enc := I) parts1 (fun _ => rfl)⟩, trivial⟩⟩, e71⟩
            ·intro w2 hw40
             subst hw40
             replace h := of_inr h
             obtain ⟨x1, thick, parts⟩ := w2
             refine awp_seq (awp_go hmix (go_run' ttok 6 rfl ?_))
             obtain ⟨cv2, hv72, h⟩ := of_obind h
             refine go_callL (L := [(10, some ⟨3, 1, parts.map I⟩)]) fn16 (r27_Check_w thick kerf parts cv2 hv72) rfl rfl rfl ⟨rfl, List.not_mem_nil, trivial⟩ ⟨(wkP_refl _ rfl), (wkP_refl _ rfl), (wkP_lend rfl (by first | rfl | (simp [setI]; done) | omega | (dsimp only; omega) | (simp [setI]; omega)) (fun _ => rfl)), trivial⟩ rfl rfl (fun _ => rfl) rfl ?_
             refine go_run' ttok 4 rfl (go_nil nd (then_norm ?_))
             refine awp_freezeM [8, 9, 11] [] [(10, some ⟨3, 1, parts.map I⟩)] [] [(10, (encL I parts))] [] rfl rfl rfl rfl rfl ⟨rfl, by decide, trivial⟩ ⟨(wkP_lend rfl (by first | rfl | (simp [setI]; done) | omega | (dsimp only; omega) | (simp [setI]; omega)) (fun _ => rfl)), trivial⟩ trivial ?_
             refine awp_ret ?_
             have e73 := of_some h
             subst e73
             refine ret_ret ?_
             refine fin0 ttok rfl rfl ?_
             exact wkP_refl _ rfl

/-- sawmill/sawmillref27.part -/
noncomputable def r27_part_g (b : Bx) (x : Bool) (s : Sp) : Bx :=
 (bif x then (⟨s, b.y, b.z⟩ : Bx) else (⟨b.x, s, b.z⟩ : Bx))
theorem r27_part_w (b : Bx) (x : Bool) (s : Sp) (r : Bx) (h : r27_part_g b x s = r) : Holds Try.prog 41 [(encBx b), (B x), (encSp s)] [] (encBx r) [] := by
 unfold r27_part_g at h
 refine holds_fn Try.func41 rfl Try.ntmps41 rfl rfl rfl (fun lim => ?_)
 refine awp_seq (awp_go hmix (go_run' ttok 3 rfl (go_nil nd (then_norm (awp_seq (awp_seq (awp_go hmix (go_run' ttok 1 rfl (go_nil nd (then_norm ?_))))))))))
 refine awp_cond (b := x) rfl (fun c1 => ?_) (fun c1 => ?_)
 ·replace h := of_bif_t h c1
  refine awp_go hmix (go_run' ttok 3 rfl (go_nil nd (then_norm (awp_seq (awp_go hmix (go_run' ttok 2 rfl (go_nil nd (then_norm (awp_ret ?_)))))))))
  have e2 := h
  subst e2
  refine ret_ret ?_
  refine fin0 ttok rfl rfl ?_
  exact (wkP_refl _ rfl)
 ·replace h := of_bif_f h c1
  refine awp_go hmix (go_run' ttok 3 rfl (go_nil nd (then_norm (awp_seq (awp_go hmix (go_run' ttok 2 rfl (go_nil nd (then_norm (awp_ret ?_)))))))))
  have e3 := h
  subst e3
  refine ret_ret ?_
  refine fin0 ttok rfl rfl ?_
  exact (wkP_refl _ rfl)

/-- sawmill/sawmillref13.bounded -/
noncomputable def r13_bounded_g (s : Sp) : Bool :=
 (bif (decide ((-1099511627776) ≤ s.a)) then (bif (decide (s.a ≤ 1099511627776)) then (bif (decide ((-1099511627776) ≤ s.b)) then (decide (s.b ≤ 1099511627776)) else false) else false) else false)
theorem r13_bounded_w (s : Sp) (r : Bool) (h : r13_bounded_g s = r) : Holds Try.prog 59 [(encSp s)] [] (B r) [] := by
 unfold r13_bounded_g at h
 refine holds_fn Try.func59 rfl Try.ntmps59 rfl rfl rfl (fun lim => ?_)
 refine awp_seq (awp_go hmix (go_run' ttok 2 rfl (go_nil nd (then_norm (awp_seq (awp_go hmix (go_run' ttok 4 rfl ?_)))))))
 refine go_gcase rfl rfl rfl (fun g1 => ?_) (fun g1 => ?_)
 ·rw [g1]
  replace h := of_bif_t h g1
  refine go_run' ttok 5 rfl ?_
  refine go_gcase rfl rfl rfl (fun g2 => ?_) (fun g2 => ?_)
  ·rw [g2]
   replace h := of_bif_t h g2
   refine go_run' ttok 5 rfl ?_
   refine go_gcase rfl rfl rfl (fun g3 => ?_) (fun g3 => ?_)
   ·rw [g3]
    replace h := of_bif_t h g3
    refine go_run' ttok 5 rfl (go_nil nd (then_norm (awp_ret ?_)))
    have e4 := h
    subst e4
    refine ret_ret ?_
    refine fin0 ttok rfl rfl ?_
    exact (wkP_refl _ rfl)
   ·rw [g3]
    replace h := of_bif_f h g3
    refine go_run' ttok 5 rfl (go_nil nd (then_norm (awp_ret ?_)))
    have e5 := h
    subst e5
    refine ret_ret ?_
    refine fin0 ttok rfl rfl ?_
    exact (wkP_refl _ rfl)
  ·rw [g2]
   replace h := of_bif_f h g2
   refine go_run' ttok 10 rfl (go_nil nd (then_norm (awp_ret ?_)))
   have e6 := h
   subst e6
   refine ret_ret ?_
   refine fin0 ttok rfl rfl ?_
   exact (wkP_refl _ rfl)
 ·rw [g1]
  replace h := of_bif_f h g1
  refine go_run' ttok 15 rfl (go_nil nd (then_norm (awp_ret ?_)))
  have e7 := h
  subst e7
  refine ret_ret ?_
  refine fin0 ttok rfl rfl ?_
  exact (wkP_refl _ rfl)

/-- sawmill/sawmillref03.Meet -/
noncomputable def r03_Meet_g (a : Sp) (b : Sp) : Sp :=
 (bif (decide ((min a.b b.b) ≤ (max a.a b.a))) then (⟨0, 0⟩ : Sp) else (⟨(max a.a b.a), (min a.b b.b)⟩ : Sp))
theorem r03_Meet_w (a : Sp) (b : Sp) (r : Sp) (h : r03_Meet_g a b = r) : Holds Try.prog 83 [(encSp a), (encSp b)] [] (encSp r) [] := by
 unfold r03_Meet_g at h
 refine holds_fn Try.func83 rfl Try.ntmps83 rfl rfl rfl (fun lim => ?_)
 refine awp_seq (awp_go hmix (go_run' ttok 3 rfl (go_nil nd (then_norm (awp_seq (awp_go hmix (go_run' ttok 13 rfl (go_nil nd (then_norm (awp_seq (awp_seq (awp_go hmix (go_run' ttok 5 rfl (go_nil nd (then_norm ?_)))))))))))))))
 refine awp_cond (b := (decide ((min a.b b.b) ≤ (max a.a b.a)))) rfl (fun c1 => ?_) (fun c1 => ?_)
 ·replace h := of_bif_t h c1
  refine awp_seq (awp_go hmix (go_run' ttok 2 rfl (go_nil nd (then_norm (awp_ret (then_ret ?_))))))
  have e2 := h
  subst e2
  refine ret_ret ?_
  refine fin0 ttok rfl rfl ?_
  exact (wkP_refl _ rfl)
 ·replace h := of_bif_f h c1
  refine awp_skip (then_norm (awp_seq (awp_go hmix (go_run' ttok 2 rfl (go_nil nd (then_norm (awp_ret ?_)))))))
  have e3 := h
  subst e3
  refine ret_ret ?_
  refine fin0 ttok rfl rfl ?_
  exact (wkP_refl _ rfl)

/-- sawmill/sawmillref13.Meet -/
noncomputable def r13_Meet_g (a : Bx) (b : Bx) : Bx :=
 (letB (r03_Meet_g a.x b.x) (fun mv => (letB (r03_Meet_g a.y b.y) (fun mv1 => (letB (r03_Meet_g a.z b.z) (fun mv2 => (⟨mv, mv1, mv2⟩ : Bx)))))))
theorem r13_Meet_w (a : Bx) (b : Bx) (r : Bx) (h : r13_Meet_g a b = r) : Holds Try.prog 62 [(encBx a), (encBx b)] [] (encBx r) [] := by
 unfold r13_Meet_g at h
 refine holds_fn Try.func62 rfl Try.ntmps62 rfl rfl rfl (fun lim => ?_)
 refine awp_seq (awp_go hmix (go_run' ttok 3 rfl (go_nil nd (then_norm (awp_seq (awp_go hmix (go_run' ttok 4 rfl ?_)))))))
 obtain ⟨mv, hv1, h⟩ := of_let h
 refine go_call fn83 (r03_Meet_w a.x b.x mv hv1) rfl rfl rfl rfl rfl rfl rfl ?_
 refine go_run' ttok 4 rfl ?_
 obtain ⟨mv1, hv2, h⟩ := of_let h
 refine go_call fn83 (r03_Meet_w a.y b.y mv1 hv2) rfl rfl rfl rfl rfl rfl rfl ?_
 refine go_run' ttok 4 rfl ?_
 obtain ⟨mv2, hv3, h⟩ := of_let h
 refine go_call fn83 (r03_Meet_w a.z b.z mv2 hv3) rfl rfl rfl rfl rfl rfl rfl ?_
 refine go_run' ttok 2 rfl ?_
 refine go_nil (fun _ => by kernel_rfl) ?_
 refine then_norm (awp_ret ?_)
 have e4 := h
 subst e4
 refine ret_ret ?_
 refine fin0 ttok rfl rfl ?_
 exact (wkP_refl _ rfl)

/-- sawmill/sawmillref13.Touches -/
noncomputable def r13_Touches_g (d : Df) (b : Bx) : Bool :=
 (letB (r13_Meet_g d.b b) (fun mv => (!(r13_Empty_g mv))))
theorem r13_Touches_w (d : Df) (b : Bx) (r : Bool) (h : r13_Touches_g d b = r) : Holds Try.prog 60 [(encDf d), (encBx b)] [] (B r) [] := by
 unfold r13_Touches_g at h
 refine holds_fn Try.func60 rfl Try.ntmps60 rfl rfl rfl (fun lim => ?_)
 refine awp_seq (awp_go hmix (go_run' ttok 3 rfl (go_nil nd (then_norm (awp_seq (awp_go hmix (go_run' ttok 3 rfl ?_)))))))
 obtain ⟨mv, hv1, h⟩ := of_let h
 refine go_call fn62 (r13_Meet_w d.b b mv hv1) rfl rfl rfl rfl rfl rfl rfl ?_
 refine go_call fn79 (r13_Empty_w mv _ rfl) rfl rfl rfl rfl rfl rfl rfl ?_
 refine go_run' ttok 2 rfl (go_nil nd (then_norm (awp_ret ?_)))
 have e2 := h
 subst e2
 refine ret_ret ?_
 refine fin0 ttok rfl rfl ?_
 exact (wkP_refl _ rfl)

/-- sawmill/sawmillref13.by -/
noncomputable def r13_by_g (s : Sp) (n : Int) : Sp :=
 (⟨(W64 (s.a + n)), (W64 (s.b + n))⟩ : Sp)
theorem r13_by_w (s : Sp) (n : Int) (r : Sp) (h : r13_by_g s n = r) : Holds Try.prog 82 [(encSp s), (I n)] [] (encSp r) [] := by
 unfold r13_by_g at h
 refine holds_fn Try.func82 rfl Try.ntmps82 rfl rfl rfl (fun lim => ?_)
 refine awp_seq (awp_go hmix (go_run' ttok 2 rfl (go_nil nd (then_norm (awp_seq (awp_go hmix (go_run' ttok 10 rfl (go_nil nd (then_norm (awp_ret ?_))))))))))
 have e1 := h
 subst e1
 refine ret_ret ?_
 refine fin0 ttok rfl rfl ?_
 exact (wkP_refl _ rfl)

/-- sawmill/sawmillref13.Move -/
noncomputable def r13_Move_g (b : Bx) (x : Int) (y : Int) (vz : Int) : Bx :=
 (letB (r13_by_g b.x x) (fun bv => (letB (r13_by_g b.y y) (fun bv1 => (letB (r13_by_g b.z vz) (fun bv2 => (⟨bv, bv1, bv2⟩ : Bx)))))))
theorem r13_Move_w (b : Bx) (x : Int) (y : Int) (vz : Int) (r : Bx) (h : r13_Move_g b x y vz = r) : Holds Try.prog 61 [(encBx b), (I x), (I y), (I vz)] [] (encBx r) [] := by
 unfold r13_Move_g at h
 refine holds_fn Try.func61 rfl Try.ntmps61 rfl rfl rfl (fun lim => ?_)
 refine awp_seq (awp_go hmix (go_run' ttok 2 rfl (go_nil nd (then_norm (awp_seq (awp_go hmix (go_run' ttok 3 rfl ?_)))))))
 obtain ⟨bv, hv1, h⟩ := of_let h
 refine go_call fn82 (r13_by_w b.x x bv hv1) rfl rfl rfl rfl rfl rfl rfl ?_
 refine go_run' ttok 3 rfl ?_
 obtain ⟨bv1, hv2, h⟩ := of_let h
 refine go_call fn82 (r13_by_w b.y y bv1 hv2) rfl rfl rfl rfl rfl rfl rfl ?_
 refine go_run' ttok 3 rfl ?_
 obtain ⟨bv2, hv3, h⟩ := of_let h
 refine go_call fn82 (r13_by_w b.z vz bv2 hv3) rfl rfl rfl rfl rfl rfl rfl ?_
 refine go_run' ttok 2 rfl ?_
 refine go_nil (fun _ => by kernel_rfl) ?_
 refine then_norm (awp_ret ?_)
 have e4 := h
 subst e4
 refine ret_ret ?_
 refine fin0 ttok rfl rfl ?_
 exact (wkP_refl _ rfl)

noncomputable def r13_Clip_s1 (l : (List Df)) (b : Bx) (out1 : (List Df)) (i : Int) : Option (((List Df) × Int) ⊕ (List Df)) :=
 (bif (decide (i < ((l.length : Nat) : Int))) then (Option.bind (getI l i) (fun e => (bif (r13_Touches_g e b) then (Option.bind (getI l i) (fun e1 => (Option.bind (getI l i) (fun e2 => (letB (r13_Meet_g e2.b b) (fun mv => (letB (r13_Move_g mv (W64 (0 - b.x.a)) (W64 (0 - b.y.a)) (W64 (0 - b.z.a))) (fun mv1 => (Option.bind (appO 56 out1 ([(⟨e1.k, mv1⟩ : Df)])) (fun l1 => some (Sum.inl (l1, (W64 (i + 1)))))))))))))) else some (Sum.inl (out1, (W64 (i + 1))))))) else some (Sum.inr out1))
/-- sawmill/sawmillref13.Clip -/
noncomputable def r13_Clip_g (l : (List Df)) (b : Bx) : Option (List Df) :=
 (Option.bind (r13_Check_g l) (fun cv => (bif (cv != 0) then some ([]) else (bif (!(r13_bounded_g b.x)) then some ([]) else (bif (!(r13_bounded_g b.y)) then some ([]) else (bif (!(r13_bounded_g b.z)) then some ([]) else (Option.bind ((loopO (fun q => r13_Clip_s1 l b q.1 q.2) ([], 0)) : Option (List Df)) (fun out => some out))))))))
theorem r13_Clip_w (l : (List Df)) (b : Bx) (r : (List Df)) (h : r13_Clip_g l b = some r) : Holds Try.prog 42 [((encL encDf) l), (encBx b)] [] ((encL encDf) r) [] := by
 unfold r13_Clip_g at h
 refine holds_fn Try.func42 rfl Try.ntmps42 rfl rfl rfl (fun lim => ?_)
 refine awp_seq (awp_go hmix (go_run' ttok 2 rfl (go_nil nd (then_norm (awp_seq (awp_seq (awp_go hmix (go_run' ttok 1 rfl ?_))))))))
 obtain ⟨cv, hv1, h⟩ := of_obind h
 refine go_call fn56 (r13_Check_w l cv hv1) rfl rfl rfl rfl rfl rfl rfl ?_
 refine go_run' ttok 2 rfl ?_
 refine go_gcase rfl rfl rfl (fun g2 => ?_) (fun g2 => ?_)
 ·rw [g2]
  replace h := of_bif_t h g2
  refine go_run' ttok 17 rfl (go_nil nd (then_norm ?_))
  refine awp_cond rfl (fun tt0 => ?_) (fun h => by cases h)
  clear tt0
  refine awp_seq (awp_go hmix (go_run' ttok 1 rfl (go_nil nd (then_norm (awp_ret (then_ret ?_))))))
  have e3 := of_some h
  subst e3
  refine ret_ret ?_
  refine fin0 ttok rfl rfl ?_
  exact wkP_nilm
 ·rw [g2]
  replace h := of_bif_f h g2
  refine go_run' ttok 2 rfl ?_
  refine go_call fn59 (r13_bounded_w b.x _ rfl) rfl rfl rfl rfl rfl rfl rfl ?_
  refine go_run' ttok 3 rfl ?_
  refine go_gcase rfl rfl rfl (fun g4 => ?_) (fun g4 => ?_)
  ·rw [g4]
   replace h := of_bif_t h g4
   refine go_run' ttok 11 rfl (go_nil nd (then_norm ?_))
   refine awp_cond rfl (fun tt0 => ?_) (fun h => by cases h)
   clear tt0
   refine awp_seq (awp_go hmix (go_run' ttok 1 rfl (go_nil nd (then_norm (awp_ret (then_ret ?_))))))
   have e5 := of_some h
   subst e5
   refine ret_ret ?_
   refine fin0 ttok rfl rfl ?_
   exact wkP_nilm
  ·rw [g4]
   replace h := of_bif_f h g4
   refine go_run' ttok 2 rfl ?_
   refine go_call fn59 (r13_bounded_w b.y _ rfl) rfl rfl rfl rfl rfl rfl rfl ?_
   refine go_run' ttok 3 rfl ?_
   refine go_gcase rfl rfl rfl (fun g6 => ?_) (fun g6 => ?_)
   ·rw [g6]
    replace h := of_bif_t h g6
    refine go_run' ttok 5 rfl (go_nil nd (then_norm ?_))
    refine awp_cond rfl (fun tt0 => ?_) (fun h => by cases h)
    clear tt0
    refine awp_seq (awp_go hmix (go_run' ttok 1 rfl (go_nil nd (then_norm (awp_ret (then_ret ?_))))))
    have e7 := of_some h
    subst e7
    refine ret_ret ?_
    refine fin0 ttok rfl rfl ?_
    exact wkP_nilm
   ·rw [g6]
    replace h := of_bif_f h g6
    refine go_run' ttok 2 rfl ?_
    refine go_call fn59 (r13_bounded_w b.z _ rfl) rfl rfl rfl rfl rfl rfl rfl ?_
    refine go_run' ttok 2 rfl (go_nil nd (then_norm ?_))
    refine awp_cond (b := (!(r13_bounded_g b.z))) rfl (fun c8 => ?_) (fun c8 => ?_)
    ·replace h := of_bif_t h c8
     refine awp_seq (awp_go hmix (go_run' ttok 1 rfl (go_nil nd (then_norm (awp_ret (then_ret ?_))))))
     have e9 := of_some h
     subst e9
     refine ret_ret ?_
     refine fin0 ttok rfl rfl ?_
     exact wkP_nilm
    ·replace h := of_bif_f h c8
     refine awp_skip (then_norm (awp_seq (awp_go hmix (go_run' ttok 1 rfl (go_nil nd (then_norm ?_))))))
     obtain ⟨y, hx10, h⟩ := of_obind h
     refine awp_seqJ (X := (List Df)) [] [] (fun w => [(5, (.arr 5 0 w.length))]) (fun w => [(5, some ⟨65, 7, w.map encDf⟩)]) (fun w => w = y) rfl rfl ?_ ?_
     ·skip
      refine awp_seq (awp_go hmix (go_run' ttok 1 rfl (go_nil nd (then_norm (awp_block ?_)))))
      refine awp_loopD (X := ((List Df) × Int)) (Y := (List Df)) [0, 3] [3] (fun q => [(5, (.arr 5 0 q.1.length)), (6, (I q.2))]) (fun q => [(5, some ⟨65, 7, q.1.map encDf⟩)]) (fun q => r13_Clip_s1 l b q.1 q.2) ([], 0) [(5, none), (3, some 3)] hx10 ⟨rfl, rfl, rfl, rfl, rfl, ⟨⟨rfl, rfl, (by first | rfl | (simp [setI]; done) | omega | (dsimp only; omega) | (simp [setI]; omega))⟩, wkP_id _ rfl, trivial⟩, ⟨rfl, trivial⟩⟩ (fun x vR vz hz12 hk13 => ?_)
      obtain ⟨out1, i⟩ := x
      change r13_Clip_s1 l b out1 i = _ at hz12
      unfold r13_Clip_s1 at hz12
      refine awp_seq (awp_seq (awp_go hmix (go_run' ttok 2 rfl ?_)))
      refine go_lenT encDf l ttok rfl rfl rfl rfl rfl rfl ?_
      refine go_run' ttok 1 rfl (go_nil nd (then_norm ?_))
      refine awp_cond (b := (decide (i < ((l.length : Nat) : Int)))) rfl (fun c14 => ?_) (fun c14 => ?_)
      ·replace hz12 := of_bif_t hz12 c14
       refine awp_skip (then_norm (awp_seq (awp_block (awp_seq (awp_go hmix (go_run' ttok 2 rfl ?_))))))
       obtain ⟨e, hv15, hz12⟩ := of_obind hz12
       refine go_indexT encDf l i e hv15 ttok rfl rfl rfl rfl rfl rfl rfl rfl rfl ?_
       refine go_run' ttok 2 rfl ?_
       refine go_call fn60 (r13_Touches_w e b _ rfl) rfl rfl rfl rfl rfl rfl rfl ?_
       refine go_nil (fun _ => by kernel_rfl) ?_
       refine then_norm ?_
       refine awp_cond (b := (r13_Touches_g e b)) rfl (fun c16 => ?_) (fun c16 => ?_)
       ·replace hz12 := of_bif_t hz12 c16
        refine awp_go hmix (go_run' ttok 3 rfl ?_)
        obtain ⟨e1, hv17, hz12⟩ := of_obind hz12
        refine go_indexT encDf l i e1 hv17 ttok rfl rfl rfl rfl rfl rfl rfl rfl rfl ?_
        refine go_run' ttok 4 rfl ?_
        obtain ⟨e2, hv18, hz12⟩ := of_obind hz12
        refine go_indexT encDf l i e2 hv18 ttok rfl rfl rfl rfl rfl rfl rfl rfl rfl ?_
        refine go_run' ttok 3 rfl ?_
        obtain ⟨mv, hv19, hz12⟩ := of_let hz12
        refine go_call fn62 (r13_Meet_w e2.b b mv hv19) rfl rfl rfl rfl rfl rfl rfl ?_
        refine go_run' ttok 12 rfl ?_
        obtain ⟨mv1, hv20, hz12⟩ := of_let hz12
        refine go_call fn61 (r13_Move_w mv (W64 (0 - b.x.a)) (W64 (0 - b.y.a)) (W64 (0 - b.z.a)) mv1 hv20) rfl rfl rfl rfl rfl rfl rfl ?_
        refine go_run' ttok 2 rfl ?_
        obtain ⟨l1, hv21, hz12⟩ := of_obind hz12
        refine go_appT encDf out1 ([(⟨e1.k, mv1⟩ : Df)]) l1 hv21 (fun _ => rfl) (by first | rfl | (simp [setI]; done) | omega | (dsimp only; omega) | (simp [setI]; omega)) (by first | rfl | (simp [setI]; done) | omega | (dsimp only; omega) | (simp [setI]; omega)) ttok rfl rfl rfl rfl rfl rfl rfl rfl rfl rfl rfl rfl rfl rfl rfl rfl rfl ?_
        refine go_run' ttok 1 rfl ?_
        refine go_nil (fun _ => by kernel_rfl) ?_
        refine block_norm (then_norm (awp_go hmix (go_run' ttok 3 rfl (go_nil nd ?_))))
        have e22 := of_some hz12
        subst e22
        refine then_norm ⟨rfl, (l1, (W64 (i + 1))), [(5, some 68), (3, some 3)], ⟨rfl, rfl, rfl, rfl, rfl, ⟨⟨rfl, rfl, (by first | rfl | (simp [setI]; done) | omega | (dsimp only; omega) | (simp [setI]; omega))⟩, wkP_id _ rfl, trivial⟩, ⟨⟨_, rfl, rfl, rfl, wkX_map (enc := encDf) l1 (fun _ => rfl)⟩, trivial⟩⟩, hk13⟩
       ·replace hz12 := of_bif_f hz12 c16
        refine awp_skip (block_norm (then_norm (awp_go hmix (go_run' ttok 3 rfl (go_nil nd ?_)))))
        have e23 := of_some hz12
        subst e23
        refine then_norm ⟨rfl, (out1, (W64 (i + 1))), [(5, some 5), (3, some 3)], ⟨rfl, rfl, rfl, rfl, rfl, ⟨⟨rfl, rfl, (by first | rfl | (simp [setI]; done) | omega | (dsimp only; omega) | (simp [setI]; omega))⟩, wkP_id _ rfl, trivial⟩, ⟨⟨_, rfl, rfl, rfl, wkX_map (enc := encDf) out1 (fun _ => rfl)⟩, trivial⟩⟩, hk13⟩
      ·replace hz12 := of_bif_f hz12 c14
       refine awp_exit (then_exit ?_)
       obtain ⟨t, hn24, hq⟩ := of_mapr' hz12
       subst hq
       have hq : t = _ := hk13
       subst hq
       refine then_exit (block_here ?_)
       have e25 := of_some hn24
       refine then_norm ⟨rfl, out1, [(5, some 5)], ⟨rfl, rfl, rfl, rfl, rfl, ⟨⟨rfl, rfl, (by first | rfl | (simp [setI]; done) | omega | (dsimp only; omega) | (simp [setI]; omega))⟩, trivial⟩, ⟨⟨_, rfl, rfl, rfl, wkX_map (enc := encDf) out1 (fun _ => rfl)⟩, trivial⟩⟩, e25⟩
     ·intro out hw11
      subst hw11
      refine awp_seq (awp_go hmix (go_run' ttok 2 rfl (go_nil nd (then_norm ?_))))
      refine awp_freezeM [] [] [(5, some ⟨65, 7, out.map encDf⟩)] [] [(4, (encL encDf out))] [] rfl rfl rfl rfl rfl ⟨rfl, by decide, trivial⟩ ⟨(wkP_lend rfl (by first | rfl | (simp [setI]; done) | omega | (dsimp only; omega) | (simp [setI]; omega)) (fun _ => rfl)), trivial⟩ trivial ?_
      refine awp_ret ?_
      have e26 := of_some h
      subst e26
      refine ret_ret ?_
      refine fin0 ttok rfl rfl ?_
      exact (wkP_refl _ rfl)

noncomputable def r27_Boards_s1 (b : TBoard) (products : (List Int)) (gv : (Bool × Int × (List Int) × Int)) (sv : ((List Sp) × (List Sp) × Sp × Int)) (vfrom : Int) (boards1 : (List TBoard)) (i : Int) : Option (((List TBoard) × Int) ⊕ (List TBoard)) :=
 (bif (decide (i < ((sv.1.length : Nat) : Int))) then (Option.bind (getI products i) (fun e => (Option.bind (getI sv.1 i) (fun e1 => (Option.bind (getI sv.1 i) (fun e2 => (letB (r27_part_g b.Box gv.1 (⟨(W64 (vfrom + e1.a)), (W64 (vfrom + e2.b))⟩ : Sp)) (fun pv => (Option.bind (getI sv.1 i) (fun e3 => (letB (r27_part_g (⟨(⟨0, (r27_size_g b.Box.x)⟩ : Sp), (⟨0, (r27_size_g b.Box.y)⟩ : Sp), (⟨0, (r27_size_g b.Box.z)⟩ : Sp)⟩ : Bx) gv.1 e3) (fun pv1 => (Option.bind (r13_Clip_g b.Defects pv1) (fun cv => (Option.bind (appO 184 boards1 ([(⟨(⟨#[]⟩ : ByteArray), b.Log, b.Species, e, pv, 0, cv, b.Wane, b.Cell, b.Dried, 0⟩ : TBoard)])) (fun l => some (Sum.inl (l, (W64 (i + 1)))))))))))))))))))) else some (Sum.inr boards1))
noncomputable def r27_Boards_s2 (b : TBoard) (gv : (Bool × Int × (List Int) × Int)) (sv : ((List Sp) × (List Sp) × Sp × Int)) (vfrom : Int) (dust1 : (List Bx)) (i1 : Int) : Option (((List Bx) × Int) ⊕ (List Bx)) :=
 (bif (decide (i1 < ((sv.2.1.length : Nat) : Int))) then (Option.bind (getI sv.2.1 i1) (fun e4 => (Option.bind (getI sv.2.1 i1) (fun e5 => (letB (r27_part_g b.Box gv.1 (⟨(W64 (vfrom + e4.a)), (W64 (vfrom + e5.b))⟩ : Sp)) (fun pv2 => (Option.bind (appO 48 dust1 ([pv2])) (fun l1 => some (Sum.inl (l1, (W64 (i1 + 1)))))))))))) else some (Sum.inr dust1))
/-- sawmill/sawmillref27.Boards -/
noncomputable def r27_Boards_g (b : TBoard) (c : (List TProduct)) (products : (List Int)) (kerf : Int) : Option ((List TBoard) × (List Bx) × (List Bx) × Int) :=
 (Option.bind (r27_given_g b c products kerf) (fun gv => (bif (gv.2.2.2 != 0) then some ([], [], [], gv.2.2.2) else (Option.bind (r27_Spans_g gv.2.1 kerf gv.2.2.1) (fun sv => (letB ((bif gv.1 then b.Box.x.a else b.Box.y.a) : Int) (fun vfrom => (Option.bind ((loopO (fun q => r27_Boards_s1 b products gv sv vfrom q.1 q.2) ([], 0)) : Option (List TBoard)) (fun boards => (Option.bind ((loopO (fun q => r27_Boards_s2 b gv sv vfrom q.1 q.2) ([], 0)) : Option (List Bx)) (fun dust => (bif (decide (sv.2.2.1.a < sv.2.2.1.b)) then (letB (r27_part_g b.Box gv.1 (⟨(W64 (vfrom + sv.2.2.1.a)), (W64 (vfrom + sv.2.2.1.b))⟩ : Sp)) (fun pv3 => (Option.bind (appO 48 ([] : List Bx) ([pv3])) (fun l2 => some (boards, dust, l2, 0))))) else some (boards, dust, [], 0)))))))))))))
theorem r27_Boards_w (b : TBoard) (c : (List TProduct)) (products : (List Int)) (kerf : Int) (r : ((List TBoard) × (List Bx) × (List Bx) × Int)) (h : r27_Boards_g b c products kerf = some r) : Holds Try.prog 24 [(encTBoard b), ((encL encTProduct) c), ((encL I) products), (I kerf)] [] (.tup [((encL encTBoard) r.1), ((encL encBx) r.2.1), ((encL encBx) r.2.2.1), (I r.2.2.2)]) [] := by
 unfold r27_Boards_g at h
 refine holds_fn Try.func24 rfl Try.ntmps24 rfl rfl rfl (fun lim => ?_)
 refine awp_seq (awp_go hmix (go_run' ttok 5 rfl (go_nil nd (then_norm (awp_seq (awp_go hmix (go_run' ttok 4 rfl ?_)))))))
 obtain ⟨gv, hv1, h⟩ := of_obind h
 refine go_call fn39 (r27_given_w b c products kerf gv hv1) rfl rfl rfl rfl rfl rfl rfl ?_
 refine go_run' ttok 9 rfl (go_nil nd (then_norm (awp_seq (awp_seq (awp_go hmix (go_run' ttok 2 rfl (go_nil nd (then_norm ?_))))))))
 refine awp_cond (b := (gv.2.2.2 != 0)) rfl (fun c2 => ?_) (fun c2 => ?_)
 ·replace h := of_bif_t h c2
  refine awp_seq (awp_go hmix (go_run' ttok 5 rfl (go_nil nd (then_norm (awp_ret (then_ret ?_))))))
  have e3 := of_some h
  subst e3
  refine ret_ret ?_
  refine fin0 ttok rfl rfl ?_
  exact ⟨wkP_nilm, wkP_nilm, wkP_nilm, (wkP_refl _ rfl), trivial⟩
 ·replace h := of_bif_f h c2
  refine awp_skip (then_norm (awp_seq (awp_go hmix (go_run' ttok 3 rfl ?_))))
  obtain ⟨sv, hv4, h⟩ := of_obind h
  refine go_call fn14 (r27_Spans_w gv.2.1 kerf gv.2.2.1 sv hv4) rfl rfl rfl rfl rfl rfl rfl ?_
  refine go_run' ttok 10 rfl (go_nil nd (then_norm (awp_seq (awp_go hmix (go_run' ttok 5 rfl (go_nil nd (then_norm ?_)))))))
  obtain ⟨y, hx5, h⟩ := of_let h
  refine awp_seqJ (X := Int) [2, 4, 8, 9, 10, 12, 15, 16, 17] [4, 17] (fun w => [(19, (I w))]) (fun w => []) (fun w => w = y) rfl rfl ?_ ?_
  ·skip
   refine awp_seq (awp_go hmix (go_run' ttok 1 rfl (go_nil nd (then_norm ?_))))
   refine awp_cond (b := gv.1) rfl (fun c7 => ?_) (fun c7 => ?_)
   ·replace hx5 := of_bif_t hx5 c7
    refine awp_go hmix (go_run' ttok 5 rfl (go_nil nd ?_))
    have e8 := hx5
    refine then_norm ⟨rfl, b.Box.x.a, [(4, some 4), (17, some 17)], ⟨rfl, rfl, rfl, rfl, rfl, ⟨wkP_id _ rfl, trivial⟩, trivial⟩, e8⟩
   ·replace hx5 := of_bif_f hx5 c7
    refine awp_skip ?_
    have e9 := hx5
    refine then_norm ⟨rfl, b.Box.y.a, [(4, some 4), (17, some 17)], ⟨rfl, rfl, rfl, rfl, rfl, ⟨wkP_id _ rfl, trivial⟩, trivial⟩, e9⟩
  ·intro vfrom hw6
   subst hw6
   refine awp_seq (awp_go hmix (go_run' ttok 3 rfl ?_))
   refine go_call fn40 (r27_size_w b.Box.x _ rfl) rfl rfl rfl rfl rfl rfl rfl ?_
   refine go_run' ttok 4 rfl ?_
   refine go_call fn40 (r27_size_w b.Box.y _ rfl) rfl rfl rfl rfl rfl rfl rfl ?_
   refine go_run' ttok 4 rfl ?_
   refine go_call fn40 (r27_size_w b.Box.z _ rfl) rfl rfl rfl rfl rfl rfl rfl ?_
   refine go_run' ttok 4 rfl ?_
   refine go_nil (fun _ => by kernel_rfl) ?_
   refine then_norm ?_
   obtain ⟨y1, hx10, h⟩ := of_obind h
   refine awp_seqJ (X := (List TBoard)) [4, 9, 10, 12, 16, 17, 19] [4, 17] (fun w1 => [(8, (.arr 8 0 w1.length))]) (fun w1 => [(8, some ⟨44, 18, w1.map encTBoard⟩)]) (fun w1 => w1 = y1) rfl rfl ?_ ?_
   ·skip
    refine awp_seq (awp_go hmix (go_run' ttok 1 rfl (go_nil nd (then_norm (awp_block ?_)))))
    refine awp_loopD (X := ((List TBoard) × Int)) (Y := (List TBoard)) [2, 4, 9, 10, 12, 15, 16, 17, 19, 20] [4, 17, 20] (fun q => [(8, (.arr 8 0 q.1.length)), (21, (I q.2))]) (fun q => [(8, some ⟨44, 18, q.1.map encTBoard⟩)]) (fun q => r27_Boards_s1 b products gv sv vfrom q.1 q.2) ([], 0) [(8, none), (4, some 4), (17, some 17), (20, some 20)] hx10 ⟨rfl, rfl, rfl, rfl, rfl, ⟨⟨rfl, rfl, (by first | rfl | (simp [setI]; done) | omega | (dsimp only; omega) | (simp [setI]; omega))⟩, wkP_id _ rfl, trivial⟩, ⟨rfl, trivial⟩⟩ (fun x vR vz hz12 hk13 => ?_)
    obtain ⟨boards1, i⟩ := x
    change r27_Boards_s1 b products gv sv vfrom boards1 i = _ at hz12
    unfold r27_Boards_s1 at hz12
    refine awp_seq (awp_seq (awp_go hmix (go_run' ttok 2 rfl ?_)))
    refine go_lenT encSp sv.1 ttok rfl rfl rfl rfl rfl rfl ?_
    refine go_run' ttok 1 rfl (go_nil nd (then_norm ?_))
    refine awp_cond (b := (decide (i < ((sv.1.length : Nat) : Int)))) rfl (fun c14 => ?_) (fun c14 => ?_)
    ·replace hz12 := of_bif_t hz12 c14
     refine awp_skip (then_norm (awp_seq (awp_block (awp_seq (awp_go hmix (go_run' ttok 6 rfl ?_))))))
     obtain ⟨e, hv15, hz12⟩ := of_obind hz12
     refine go_indexT I products i e hv15 ttok rfl rfl rfl rfl rfl rfl rfl rfl rfl ?_
     refine go_run' ttok 10 rfl ?_
     refine go_nil (fun _ => by kernel_rfl) ?_
     refine then_norm (awp_seq (awp_go hmix (go_run' ttok 6 rfl ?_)))
     obtain ⟨e1, hv16, hz12⟩ := of_obind hz12
     refine go_indexT encSp sv.1 i e1 hv16 ttok rfl rfl rfl rfl rfl rfl rfl rfl rfl ?_
     refine go_run' ttok 6 rfl ?_
     obtain ⟨e2, hv17, hz12⟩ := of_obind hz12
     refine go_indexT encSp sv.1 i e2 hv17 ttok rfl rfl rfl rfl rfl rfl rfl rfl rfl ?_
     refine go_run' ttok 4 rfl ?_
     obtain ⟨pv, hv18, hz12⟩ := of_let hz12
     refine go_call fn41 (r27_part_w b.Box gv.1 (⟨(W64 (vfrom + e1.a)), (W64 (vfrom + e2.b))⟩ : Sp) pv hv18) rfl rfl rfl rfl rfl rfl rfl ?_
     refine go_run' ttok 2 rfl ?_
     refine go_nil (fun _ => by kernel_rfl) ?_
     refine then_norm (awp_seq (awp_go hmix (go_run' ttok 6 rfl ?_)))
     obtain ⟨e3, hv19, hz12⟩ := of_obind hz12
     refine go_indexT encSp sv.1 i e3 hv19 ttok rfl rfl rfl rfl rfl rfl rfl rfl rfl ?_
     refine go_run' ttok 1 rfl ?_
     obtain ⟨pv1, hv20, hz12⟩ := of_let hz12
     refine go_call fn41 (r27_part_w (⟨(⟨0, (r27_size_g b.Box.x)⟩ : Sp), (⟨0, (r27_size_g b.Box.y)⟩ : Sp), (⟨0, (r27_size_g b.Box.z)⟩ : Sp)⟩ : Bx) gv.1 e3 pv1 hv20) rfl rfl rfl rfl rfl rfl rfl ?_
     obtain ⟨cv, hv21, hz12⟩ := of_obind hz12
     refine go_call fn42 (r13_Clip_w b.Defects pv1 cv hv21) rfl rfl rfl rfl rfl rfl rfl ?_
     refine go_run' ttok 2 rfl ?_
     refine go_nil (fun _ => by kernel_rfl) ?_
     refine then_norm (awp_go hmix (go_run' ttok 3 rfl ?_))
     obtain ⟨l, hv22, hz12⟩ := of_obind hz12
     refine go_appT encTBoard boards1 ([(⟨(⟨#[]⟩ : ByteArray), b.Log, b.Species, e, pv, 0, cv, b.Wane, b.Cell, b.Dried, 0⟩ : TBoard)]) l hv22 (fun _ => rfl) (by first | rfl | (simp [setI]; done) | omega | (dsimp only; omega) | (simp [setI]; omega)) (by first | rfl | (simp [setI]; done) | omega | (dsimp only; omega) | (simp [setI]; omega)) ttok rfl rfl rfl rfl rfl rfl rfl rfl rfl rfl rfl rfl rfl rfl rfl rfl rfl ?_
     refine go_run' ttok 1 rfl (go_nil nd (block_norm (then_norm (awp_go hmix (go_run' ttok 3 rfl (go_nil nd ?_))))))
     have e23 := of_some hz12
     subst e23
     refine then_norm ⟨rfl, (l, (W64 (i + 1))), [(8, some 126), (4, some 4), (17, some 17), (20, some 20)], ⟨rfl, rfl, rfl, rfl, rfl, ⟨⟨rfl, rfl, (by first | rfl | (simp [setI]; done) | omega | (dsimp only; omega) | (simp [setI]; omega))⟩, wkP_id _ rfl, trivial⟩, ⟨⟨_, rfl, rfl, rfl, wkX_map (enc := encTBoard) l (fun _ => rfl)⟩, trivial⟩⟩, hk13⟩
    ·replace hz12 := of_bif_f hz12 c14
     refine awp_exit (then_exit ?_)
     obtain ⟨t, hn24, hq⟩ := of_mapr' hz12
     subst hq
     have hq : t = _ := hk13
     subst hq
     refine then_exit (block_here ?_)
     have e25 := of_some hn24
     refine then_norm ⟨rfl, boards1, [(8, some 8), (4, some 4), (17, some 17)], ⟨rfl, rfl, rfl, rfl, rfl, ⟨⟨rfl, rfl, (by first | rfl | (simp [setI]; done) | omega | (dsimp only; omega) | (simp [setI]; omega))⟩, trivial⟩, ⟨⟨_, rfl, rfl, rfl, wkX_map (enc := encTBoard) boards1 (fun _ => rfl)⟩, trivial⟩⟩, e25⟩
   ·intro boards hw11
    subst hw11
    obtain ⟨y2, hx26, h⟩ := of_obind h
    refine awp_seqJ (X := (List Bx)) [4, 10, 12, 17, 19] [4, 17] (fun w2 => [(8, (.arr 8 0 boards.length)), (9, (.arr 9 0 w2.length))]) (fun w2 => [(8, some ⟨44, 18, boards.map encTBoard⟩), (9, some ⟨39, 6, w2.map encBx⟩)]) (fun w2 => w2 = y2) rfl rfl ?_ ?_
    ·skip
     refine awp_seq (awp_go hmix (go_run' ttok 1 rfl (go_nil nd (then_norm (awp_block ?_)))))
     refine awp_loopD (X := ((List Bx) × Int)) (Y := (List Bx)) [4, 10, 12, 16, 17, 19] [4, 17] (fun q => [(9, (.arr 9 0 q.1.length)), (23, (I q.2)), (8, (.arr 8 0 boards.length))]) (fun q => [(9, some ⟨39, 6, q.1.map encBx⟩), (8, some ⟨44, 18, boards.map encTBoard⟩)]) (fun q => r27_Boards_s2 b gv sv vfrom q.1 q.2) ([], 0) [(9, none), (8, some 8), (4, some 4), (17, some 17)] hx26 ⟨rfl, rfl, rfl, rfl, rfl, ⟨⟨rfl, rfl, (by first | rfl | (simp [setI]; done) | omega | (dsimp only; omega) | (simp [setI]; omega))⟩, wkP_id _ rfl, ⟨rfl, rfl, (by first | rfl | (simp [setI]; done) | omega | (dsimp only; omega) | (simp [setI]; omega))⟩, trivial⟩, ⟨rfl, ⟨_, rfl, rfl, rfl, wkX_map (enc := encTBoard) boards (fun _ => rfl)⟩, trivial⟩⟩ (fun x1 vR1 vz1 hz28 hk29 => ?_)
     obtain ⟨dust1, i1⟩ := x1
     change r27_Boards_s2 b gv sv vfrom dust1 i1 = _ at hz28
     unfold r27_Boards_s2 at hz28
     refine awp_seq (awp_seq (awp_go hmix (go_run' ttok 2 rfl ?_)))
     refine go_lenT encSp sv.2.1 ttok rfl rfl rfl rfl rfl rfl ?_
     refine go_run' ttok 1 rfl (go_nil nd (then_norm ?_))
     refine awp_cond (b := (decide (i1 < ((sv.2.1.length : Nat) : Int)))) rfl (fun c30 => ?_) (fun c30 => ?_)
     ·replace hz28 := of_bif_t hz28 c30
      refine awp_skip (then_norm (awp_seq (awp_block (awp_go hmix (go_run' ttok 7 rfl ?_)))))
      obtain ⟨e4, hv31, hz28⟩ := of_obind hz28
      refine go_indexT encSp sv.2.1 i1 e4 hv31 ttok rfl rfl rfl rfl rfl rfl rfl rfl rfl ?_
      refine go_run' ttok 6 rfl ?_
      obtain ⟨e5, hv32, hz28⟩ := of_obind hz28
      refine go_indexT encSp sv.2.1 i1 e5 hv32 ttok rfl rfl rfl rfl rfl rfl rfl rfl rfl ?_
      refine go_run' ttok 4 rfl ?_
      obtain ⟨pv2, hv33, hz28⟩ := of_let hz28
      refine go_call fn41 (r27_part_w b.Box gv.1 (⟨(W64 (vfrom + e4.a)), (W64 (vfrom + e5.b))⟩ : Sp) pv2 hv33) rfl rfl rfl rfl rfl rfl rfl ?_
      refine go_run' ttok 1 rfl ?_
      obtain ⟨l1, hv34, hz28⟩ := of_obind hz28
      refine go_appT encBx dust1 ([pv2]) l1 hv34 (fun _ => rfl) (by first | rfl | (simp [setI]; done) | omega | (dsimp only; omega) | (simp [setI]; omega)) (by first | rfl | (simp [setI]; done) | omega | (dsimp only; omega) | (simp [setI]; omega)) ttok rfl rfl rfl rfl rfl rfl rfl rfl rfl rfl rfl rfl rfl rfl rfl rfl rfl ?_
      refine go_run' ttok 1 rfl ?_
      refine go_nil (fun _ => by kernel_rfl) ?_
      refine block_norm (then_norm (awp_go hmix (go_run' ttok 3 rfl (go_nil nd ?_))))
      have e35 := of_some hz28
      subst e35
      refine then_norm ⟨rfl, (l1, (W64 (i1 + 1))), [(9, some 154), (8, some 8), (4, some 4), (17, some 17)], ⟨rfl, rfl, rfl, rfl, rfl, ⟨⟨rfl, rfl, (by first | rfl | (simp [setI]; done) | omega | (dsimp only; omega) | (simp [setI]; omega))⟩, wkP_id _ rfl, ⟨rfl, rfl, (by first | rfl | (simp [setI]; done) | omega | (dsimp only; omega) | (simp [setI]; omega))⟩, trivial⟩, ⟨⟨_, rfl, rfl, rfl, wkX_map (enc := encBx) l1 (fun _ => rfl)⟩, ⟨_, rfl, rfl, rfl, wkX_map (enc := encTBoard) boards (fun _ => rfl)⟩, trivial⟩⟩, hk29⟩
     ·replace hz28 := of_bif_f hz28 c30
      refine awp_exit (then_exit ?_)
      obtain ⟨t1, hn36, hq⟩ := of_mapr' hz28
      subst hq
      have hq : t1 = _ := hk29
      subst hq
      refine then_exit (block_here ?_)
      have e37 := of_some hn36
      refine then_norm ⟨rfl, dust1, [(8, some 8), (9, some 9), (4, some 4), (17, some 17)], ⟨rfl, rfl, rfl, rfl, rfl, ⟨⟨rfl, rfl, (by first | rfl | (simp [setI]; done) | omega | (dsimp only; omega) | (simp [setI]; omega))⟩, ⟨rfl, rfl, (by first | rfl | (simp [setI]; done) | omega | (dsimp only; omega) | (simp [setI]; omega))⟩, trivial⟩, ⟨⟨_, rfl, rfl, rfl, wkX_map (enc := encTBoard) boards (fun _ => rfl)⟩, ⟨_, rfl, rfl, rfl, wkX_map (enc := encBx) dust1 (fun _ => rfl)⟩, trivial⟩⟩, e37⟩
    ·intro dust hw27
     subst hw27
     refine awp_seq (awp_seq (awp_go hmix (go_run' ttok 5 rfl (go_nil nd (then_norm ?_)))))
     refine awp_cond (b := (decide (sv.2.2.1.a < sv.2.2.1.b))) rfl (fun c38 => ?_) (fun c38 => ?_)
     ·replace h := of_bif_t h c38
      refine awp_go hmix (go_run' ttok 13 rfl ?_)
      obtain ⟨pv3, hv39, h⟩ := of_let h
      refine go_call fn41 (r27_part_w b.Box gv.1 (⟨(W64 (vfrom + sv.2.2.1.a)), (W64 (vfrom + sv.2.2.1.b))⟩ : Sp) pv3 hv39) rfl rfl rfl rfl rfl rfl rfl ?_
      refine go_run' ttok 1 rfl ?_
      obtain ⟨l2, hv40, h⟩ := of_obind h
      refine go_appTn encBx ([pv3]) l2 hv40 (fun _ => rfl) (by first | rfl | (simp [setI]; done) | omega | (dsimp only; omega) | (simp [setI]; omega)) ttok rfl rfl rfl rfl rfl rfl rfl rfl rfl rfl rfl rfl rfl rfl ?_
      refine go_run' ttok 1 rfl (go_nil nd (then_norm (awp_seq (awp_go hmix (go_run' ttok 7 rfl (go_nil nd (then_norm ?_)))))))
      refine awp_freezeM [11] [] [(8, some ⟨44, 18, boards.map encTBoard⟩), (9, some ⟨39, 6, dust.map encBx⟩), (175, some ⟨39, 6, l2.map encBx⟩)] [] [(8, (encL encTBoard boards)), (9, (encL encBx dust)), (10, (encL encBx l2))] [] rfl rfl rfl rfl rfl ⟨rfl, by decide, rfl, by decide, rfl, by decide, trivial⟩ ⟨(wkP_lend rfl (by first | rfl | (simp [setI]; done) | omega | (dsimp only; omega) | (simp [setI]; omega)) (fun _ => rfl)), (wkP_lend rfl (by first | rfl | (simp [setI]; done) | omega | (dsimp only; omega) | (simp [setI]; omega)) (fun _ => rfl)), (wkP_lend rfl (by first | rfl | (simp [setI]; done) | omega | (dsimp only; omega) | (simp [setI]; omega)) (fun _ => rfl)), trivial⟩ trivial ?_
      refine awp_ret ?_
      have e41 := of_some h
      subst e41
      refine ret_ret ?_
      refine fin0 ttok rfl rfl ?_
      exact wkP_refl _ rfl
     ·replace h := of_bif_f h c38
      refine awp_skip (then_norm (awp_seq (awp_go hmix (go_run' ttok 7 rfl (go_nil nd (then_norm ?_))))))
      refine awp_freezeM [10, 11] [] [(8, some ⟨44, 18, boards.map encTBoard⟩), (9, some ⟨39, 6, dust.map encBx⟩)] [] [(8, (encL encTBoard boards)), (9, (encL encBx dust))] [] rfl rfl rfl rfl rfl ⟨rfl, by decide, rfl, by decide, trivial⟩ ⟨(wkP_lend rfl (by first | rfl | (simp [setI]; done) | omega | (dsimp only; omega) | (simp [setI]; omega)) (fun _ => rfl)), (wkP_lend rfl (by first | rfl | (simp [setI]; done) | omega | (dsimp only; omega) | (simp [setI]; omega)) (fun _ => rfl)), trivial⟩ trivial ?_
      refine awp_ret ?_
      have e42 := of_some h
      subst e42
      refine ret_ret ?_
      refine fin0 ttok rfl rfl ?_
      exact ⟨(wkP_refl _ rfl), (wkP_refl _ rfl), wkP_nilm, (wkP_refl _ rfl), trivial⟩

theorem eqT65_1 : eqB Try.prog shDf 65 = true := by kernel_rfl
theorem eqT65_2 : (Try.prog).eqGuardType (Try.prog).depth 65 = false := by kernel_rfl

noncomputable def r27_SameDefects_s1 (a : (List Df)) (b : (List Df)) (i : Int) : Option (Int ⊕ (Bool ⊕ Unit)) :=
 (bif (decide (i < ((a.length : Nat) : Int))) then (Option.bind (getI a i) (fun e => (Option.bind (getI b i) (fun e1 => (bif (!(eqV encDf e e1)) then some (Sum.inr (Sum.inl false)) else some (Sum.inl (W64 (i + 1)))))))) else some (Sum.inr (Sum.inr ())))
/-- sawmill/sawmillref27.SameDefects -/
noncomputable def r27_SameDefects_g (a : (List Df)) (b : (List Df)) : Option Bool :=
 (bif (((a.length : Nat) : Int) != ((b.length : Nat) : Int)) then some false else (Option.bind ((loopO (fun q => r27_SameDefects_s1 a b q) 0) : Option (Bool ⊕ Unit)) (Sum.elim (fun q => some q) (fun _ => some true))))
theorem r27_SameDefects_w (a : (List Df)) (b : (List Df)) (r : Bool) (h : r27_SameDefects_g a b = some r) : Holds Try.prog 63 [((encL encDf) a), ((encL encDf) b)] [] (B r) [] := by
 unfold r27_SameDefects_g at h
 refine holds_fn Try.func63 rfl Try.ntmps63 rfl rfl rfl (fun lim => ?_)
 refine awp_seq (awp_go hmix (go_run' ttok 1 rfl (go_nil nd (then_norm (awp_seq (awp_seq (awp_go hmix (go_run' ttok 1 rfl ?_))))))))
 refine go_lenT encDf a ttok rfl rfl rfl rfl rfl rfl ?_
 refine go_run' ttok 1 rfl ?_
 refine go_lenT encDf b ttok rfl rfl rfl rfl rfl rfl ?_
 refine go_run' ttok 1 rfl (go_nil nd (then_norm ?_))
 refine awp_cond (b := (((a.length : Nat) : Int) != ((b.length : Nat) : Int))) rfl (fun c1 => ?_) (fun c1 => ?_)
 ·replace h := of_bif_t h c1
  refine awp_seq (awp_go hmix (go_run' ttok 1 rfl (go_nil nd (then_norm (awp_ret (then_ret ?_))))))
  have e2 := of_some h
  subst e2
  refine ret_ret ?_
  refine fin0 ttok rfl rfl ?_
  exact (wkP_refl _ rfl)
 ·replace h := of_bif_f h c1
  refine awp_skip (then_norm ?_)
  obtain ⟨y, hx3, h⟩ := of_obind h
  refine awp_seqJ (X := Unit) [] [] (fun _ => []) (fun _ => []) (fun w => Sum.inr w = y) rfl rfl ?_ ?_
  ·skip
   refine awp_seq (awp_go hmix (go_run' ttok 1 rfl (go_nil nd (then_norm (awp_block ?_)))))
   refine awp_loopD (X := Int) (Y := (Bool ⊕ Unit)) [0, 1] [] (fun q => [(5, (I q))]) (fun q => []) (fun q => r27_SameDefects_s1 a b q) 0 [] hx3 ⟨rfl, rfl, rfl, rfl, rfl, ⟨wkP_id _ rfl, trivial⟩, trivial⟩ (fun i vR vz hz5 hk6 => ?_)
   change r27_SameDefects_s1 a b i = _ at hz5
   unfold r27_SameDefects_s1 at hz5
   refine awp_seq (awp_seq (awp_go hmix (go_run' ttok 2 rfl ?_)))
   refine go_lenT encDf a ttok rfl rfl rfl rfl rfl rfl ?_
   refine go_run' ttok 1 rfl (go_nil nd (then_norm ?_))
   refine awp_cond (b := (decide (i < ((a.length : Nat) : Int)))) rfl (fun c7 => ?_) (fun c7 => ?_)
   ·replace hz5 := of_bif_t hz5 c7
    refine awp_skip (then_norm (awp_seq (awp_block (awp_seq (awp_go hmix (go_run' ttok 2 rfl ?_))))))
    obtain ⟨e, hv8, hz5⟩ := of_obind hz5
    refine go_indexT encDf a i e hv8 ttok rfl rfl rfl rfl rfl rfl rfl rfl rfl ?_
    refine go_run' ttok 3 rfl ?_
    obtain ⟨e1, hv9, hz5⟩ := of_obind hz5
    refine go_indexT encDf b i e1 hv9 ttok rfl rfl rfl rfl rfl rfl rfl rfl rfl ?_
    refine go_run' ttok 1 rfl ?_
    refine go_step rfl (as_neAgg shDf rfl eqT65_1 eqT65_2 (by decide) rfl rfl rfl rfl rfl) rfl rfl rfl ?_
    refine go_nil (fun _ => by kernel_rfl) ?_
    refine then_norm ?_
    refine awp_cond (b := (!(eqV encDf e e1))) rfl (fun c10 => ?_) (fun c10 => ?_)
    ·replace hz5 := of_bif_t hz5 c10
     refine awp_seq (awp_go hmix (go_run' ttok 1 rfl (go_nil nd (then_norm (awp_ret (block_ret (then_ret ?_)))))))
     obtain ⟨t, hn11, hq⟩ := of_mapr' hz5
     subst hq
     have hq : t = _ := hk6
     subst hq
     refine then_ret (block_ret ?_)
     obtain ⟨t1, hn12, hq⟩ := of_mapl' hn11
     subst hq
     have hq := of_inl h
     replace hq := of_some hq
     subst hq
     refine then_ret ?_
     have e13 := of_some hn12
     subst e13
     refine ret_ret ?_
     refine fin0 ttok rfl rfl ?_
     exact (wkP_refl _ rfl)
    ·replace hz5 := of_bif_f hz5 c10
     refine awp_skip (block_norm (then_norm (awp_go hmix (go_run' ttok 3 rfl (go_nil nd ?_)))))
     have e14 := of_some hz5
     subst e14
     refine then_norm ⟨rfl, (W64 (i + 1)), [], ⟨rfl, rfl, rfl, rfl, rfl, ⟨wkP_id _ rfl, trivial⟩, trivial⟩, hk6⟩
   ·replace hz5 := of_bif_f hz5 c7
    refine awp_exit (then_exit ?_)
    obtain ⟨t2, hn15, hq⟩ := of_mapr' hz5
    subst hq
    have hq : t2 = _ := hk6
    subst hq
    refine then_exit (block_here ?_)
    have e16 := of_some hn15
    refine then_norm ⟨rfl, (), [], ⟨rfl, rfl, rfl, rfl, rfl, trivial, trivial⟩, e16⟩
  ·intro w hw4
   subst hw4
   replace h := of_inr h
   refine awp_seq (awp_go hmix (go_run' ttok 1 rfl (go_nil nd (then_norm (awp_ret ?_)))))
   have e17 := of_some h
   subst e17
   refine ret_ret ?_
   refine fin0 ttok rfl rfl ?_
   exact (wkP_refl _ rfl)

theorem eqT39_1 : eqB Try.prog shBx 39 = true := by kernel_rfl
theorem eqT39_2 : (Try.prog).eqGuardType (Try.prog).depth 39 = false := by kernel_rfl

theorem eqT42_1 : eqB Try.prog shTCell 42 = true := by kernel_rfl
theorem eqT42_2 : (Try.prog).eqGuardType (Try.prog).depth 42 = false := by kernel_rfl

/-- sawmill/sawmillref27.SameBoard -/
noncomputable def r27_SameBoard_g (a : TBoard) (b : TBoard) : Option Bool :=
 (bif (bEq a.Id b.Id) then (bif (bEq a.Log b.Log) then (bif (bEq a.Species b.Species) then (bif (a.Product == b.Product) then (bif (eqV encBx a.Box b.Box) then (bif (a.Volume == b.Volume) then (Option.bind (r27_SameDefects_g a.Defects b.Defects) (fun sv => (bif sv then (bif (a.Wane == b.Wane) then (bif (eqV encTCell a.Cell b.Cell) then (bif (a.Dried == b.Dried) then some (a.Grade == b.Grade) else some false) else some false) else some false) else some false))) else some false) else some false) else some false) else some false) else some false) else some false)
theorem r27_SameBoard_w (a : TBoard) (b : TBoard) (r : Bool) (h : r27_SameBoard_g a b = some r) : Holds Try.prog 43 [(encTBoard a), (encTBoard b)] [] (B r) [] := by
 unfold r27_SameBoard_g at h
 refine holds_fn Try.func43 rfl Try.ntmps43 rfl rfl rfl (fun lim => ?_)
 refine awp_seq (awp_go hmix (go_run' ttok 3 rfl (go_nil nd (then_norm (awp_seq (awp_go hmix (go_run' ttok 4 rfl ?_)))))))
 refine go_eqlS a.Id b.Id rfl rfl rfl rfl rfl ?_
 refine go_run' ttok 1 rfl ?_
 refine go_gcase rfl rfl rfl (fun g1 => ?_) (fun g1 => ?_)
 ·rw [g1]
  replace h := of_bif_t h g1
  refine go_run' ttok 4 rfl ?_
  refine go_eqlS a.Log b.Log rfl rfl rfl rfl rfl ?_
  refine go_run' ttok 2 rfl ?_
  refine go_gcase rfl rfl rfl (fun g2 => ?_) (fun g2 => ?_)
  ·rw [g2]
   replace h := of_bif_t h g2
   refine go_run' ttok 4 rfl ?_
   refine go_eqlS a.Species b.Species rfl rfl rfl rfl rfl ?_
   refine go_run' ttok 2 rfl ?_
   refine go_gcase rfl rfl rfl (fun g3 => ?_) (fun g3 => ?_)
   ·rw [g3]
    replace h := of_bif_t h g3
    refine go_run' ttok 7 rfl ?_
    refine go_gcase rfl rfl rfl (fun g4 => ?_) (fun g4 => ?_)
    ·rw [g4]
     replace h := of_bif_t h g4
     refine go_run' ttok 4 rfl ?_
     refine go_step rfl (as_eqAgg shBx rfl eqT39_1 eqT39_2 (by decide) rfl rfl rfl rfl rfl) rfl rfl rfl ?_
     refine go_run' ttok 2 rfl ?_
     refine go_gcase rfl rfl rfl (fun g5 => ?_) (fun g5 => ?_)
     ·rw [g5]
      replace h := of_bif_t h g5
      refine go_run' ttok 7 rfl ?_
      refine go_gcase rfl rfl rfl (fun g6 => ?_) (fun g6 => ?_)
      ·rw [g6]
       replace h := of_bif_t h g6
       refine go_run' ttok 4 rfl ?_
       obtain ⟨sv, hv7, h⟩ := of_obind h
       refine go_call fn63 (r27_SameDefects_w a.Defects b.Defects sv hv7) rfl rfl rfl rfl rfl rfl rfl ?_
       refine go_run' ttok 2 rfl ?_
       refine go_gcase rfl rfl rfl (fun g8 => ?_) (fun g8 => ?_)
       ·rw [g8]
        replace h := of_bif_t h g8
        refine go_run' ttok 7 rfl ?_
        refine go_gcase rfl rfl rfl (fun g9 => ?_) (fun g9 => ?_)
        ·rw [g9]
         replace h := of_bif_t h g9
         refine go_run' ttok 4 rfl ?_
         refine go_step rfl (as_eqAgg shTCell rfl eqT42_1 eqT42_2 (by decide) rfl rfl rfl rfl rfl) rfl rfl rfl ?_
         refine go_run' ttok 2 rfl ?_
         refine go_gcase rfl rfl rfl (fun g10 => ?_) (fun g10 => ?_)
         ·rw [g10]
          replace h := of_bif_t h g10
          refine go_run' ttok 4 rfl ?_
          refine go_step rfl (as_eqBool rfl (ttok _ _ rfl) rfl rfl rfl) rfl rfl rfl ?_
          refine go_run' ttok 2 rfl ?_
          refine go_gcase rfl rfl rfl (fun g11 => ?_) (fun g11 => ?_)
          ·rw [g11]
           replace h := of_bif_t h g11
           refine go_run' ttok 7 rfl (go_nil nd (then_norm (awp_ret ?_)))
           have e12 := of_some h
           subst e12
           refine ret_ret ?_
           refine fin0 ttok rfl rfl ?_
           exact (wkP_refl _ rfl)
          ·rw [g11]
           replace h := of_bif_f h g11
           refine go_run' ttok 7 rfl (go_nil nd (then_norm (awp_ret ?_)))
           have e13 := of_some h
           subst e13
           refine ret_ret ?_
           refine fin0 ttok rfl rfl ?_
           exact (wkP_refl _ rfl)
         ·rw [g10]
          replace h := of_bif_f h g10
          refine go_run' ttok 14 rfl (go_nil nd (then_norm (awp_ret ?_)))
          have e14 := of_some h
          subst e14
          refine ret_ret ?_
          refine fin0 ttok rfl rfl ?_
          exact (wkP_refl _ rfl)
        ·rw [g9]
         replace h := of_bif_f h g9
         refine go_run' ttok 21 rfl (go_nil nd (then_norm (awp_ret ?_)))
         have e15 := of_some h
         subst e15
         refine ret_ret ?_
         refine fin0 ttok rfl rfl ?_
         exact (wkP_refl _ rfl)
       ·rw [g8]
        replace h := of_bif_f h g8
        refine go_run' ttok 28 rfl (go_nil nd (then_norm (awp_ret ?_)))
        have e16 := of_some h
        subst e16
        refine ret_ret ?_
        refine fin0 ttok rfl rfl ?_
        exact (wkP_refl _ rfl)
      ·rw [g6]
       replace h := of_bif_f h g6
       refine go_run' ttok 35 rfl (go_nil nd (then_norm (awp_ret ?_)))
       have e17 := of_some h
       subst e17
       refine ret_ret ?_
       refine fin0 ttok rfl rfl ?_
       exact (wkP_refl _ rfl)
     ·rw [g5]
      replace h := of_bif_f h g5
      refine go_run' ttok 42 rfl (go_nil nd (then_norm (awp_ret ?_)))
      have e18 := of_some h
      subst e18
      refine ret_ret ?_
      refine fin0 ttok rfl rfl ?_
      exact (wkP_refl _ rfl)
    ·rw [g4]
     replace h := of_bif_f h g4
     refine go_run' ttok 49 rfl (go_nil nd (then_norm (awp_ret ?_)))
     have e19 := of_some h
     subst e19
     refine ret_ret ?_
     refine fin0 ttok rfl rfl ?_
     exact (wkP_refl _ rfl)
   ·rw [g3]
    replace h := of_bif_f h g3
    refine go_run' ttok 56 rfl (go_nil nd (then_norm (awp_ret ?_)))
    have e20 := of_some h
    subst e20
    refine ret_ret ?_
    refine fin0 ttok rfl rfl ?_
    exact (wkP_refl _ rfl)
  ·rw [g2]
   replace h := of_bif_f h g2
   refine go_run' ttok 63 rfl (go_nil nd (then_norm (awp_ret ?_)))
   have e21 := of_some h
   subst e21
   refine ret_ret ?_
   refine fin0 ttok rfl rfl ?_
   exact (wkP_refl _ rfl)
 ·rw [g1]
  replace h := of_bif_f h g1
  refine go_run' ttok 70 rfl (go_nil nd (then_norm (awp_ret ?_)))
  have e22 := of_some h
  subst e22
  refine ret_ret ?_
  refine fin0 ttok rfl rfl ?_
  exact (wkP_refl _ rfl)

noncomputable def r27_SameBoards_s1 (a : (List TBoard)) (b : (List TBoard)) (i : Int) : Option (Int ⊕ (Bool ⊕ Unit)) :=
 (bif (decide (i < ((a.length : Nat) : Int))) then (Option.bind (getI a i) (fun e => (Option.bind (getI b i) (fun e1 => (Option.bind (r27_SameBoard_g e e1) (fun sv => (bif (!sv) then some (Sum.inr (Sum.inl false)) else some (Sum.inl (W64 (i + 1)))))))))) else some (Sum.inr (Sum.inr ())))
/-- sawmill/sawmillref27.SameBoards -/
noncomputable def r27_SameBoards_g (a : (List TBoard)) (b : (List TBoard)) : Option Bool :=
 (bif (((a.length : Nat) : Int) != ((b.length : Nat) : Int)) then some false else (Option.bind ((loopO (fun q => r27_SameBoards_s1 a b q) 0) : Option (Bool ⊕ Unit)) (Sum.elim (fun q => some q) (fun _ => some true))))
theorem r27_SameBoards_w (a : (List TBoard)) (b : (List TBoard)) (r : Bool) (h : r27_SameBoards_g a b = some r) : Holds Try.prog 25 [((encL encTBoard) a), ((encL encTBoard) b)] [] (B r) [] := by
 unfold r27_SameBoards_g at h
 refine holds_fn Try.func25 rfl Try.ntmps25 rfl rfl rfl (fun lim => ?_)
 refine awp_seq (awp_go hmix (go_run' ttok 1 rfl (go_nil nd (then_norm (awp_seq (awp_seq (awp_go hmix (go_run' ttok 1 rfl ?_))))))))
 refine go_lenT encTBoard a ttok rfl rfl rfl rfl rfl rfl ?_
 refine go_run' ttok 1 rfl ?_
 refine go_lenT encTBoard b ttok rfl rfl rfl rfl rfl rfl ?_
 refine go_run' ttok 1 rfl (go_nil nd (then_norm ?_))
 refine awp_cond (b := (((a.length : Nat) : Int) != ((b.length : Nat) : Int))) rfl (fun c1 => ?_) (fun c1 => ?_)
 ·replace h := of_bif_t h c1
  refine awp_seq (awp_go hmix (go_run' ttok 1 rfl (go_nil nd (then_norm (awp_ret (then_ret ?_))))))
  have e2 := of_some h
  subst e2
  refine ret_ret ?_
  refine fin0 ttok rfl rfl ?_
  exact (wkP_refl _ rfl)
 ·replace h := of_bif_f h c1
  refine awp_skip (then_norm ?_)
  obtain ⟨y, hx3, h⟩ := of_obind h
  refine awp_seqJ (X := Unit) [] [] (fun _ => []) (fun _ => []) (fun w => Sum.inr w = y) rfl rfl ?_ ?_
  ·skip
   refine awp_seq (awp_go hmix (go_run' ttok 1 rfl (go_nil nd (then_norm (awp_block ?_)))))
   refine awp_loopD (X := Int) (Y := (Bool ⊕ Unit)) [0, 1] [] (fun q => [(5, (I q))]) (fun q => []) (fun q => r27_SameBoards_s1 a b q) 0 [] hx3 ⟨rfl, rfl, rfl, rfl, rfl, ⟨wkP_id _ rfl, trivial⟩, trivial⟩ (fun i vR vz hz5 hk6 => ?_)
   change r27_SameBoards_s1 a b i = _ at hz5
   unfold r27_SameBoards_s1 at hz5
   refine awp_seq (awp_seq (awp_go hmix (go_run' ttok 2 rfl ?_)))
   refine go_lenT encTBoard a ttok rfl rfl rfl rfl rfl rfl ?_
   refine go_run' ttok 1 rfl (go_nil nd (then_norm ?_))
   refine awp_cond (b := (decide (i < ((a.length : Nat) : Int)))) rfl (fun c7 => ?_) (fun c7 => ?_)
   ·replace hz5 := of_bif_t hz5 c7
    refine awp_skip (then_norm (awp_seq (awp_block (awp_seq (awp_go hmix (go_run' ttok 2 rfl ?_))))))
    obtain ⟨e, hv8, hz5⟩ := of_obind hz5
    refine go_indexT encTBoard a i e hv8 ttok rfl rfl rfl rfl rfl rfl rfl rfl rfl ?_
    refine go_run' ttok 3 rfl ?_
    obtain ⟨e1, hv9, hz5⟩ := of_obind hz5
    refine go_indexT encTBoard b i e1 hv9 ttok rfl rfl rfl rfl rfl rfl rfl rfl rfl ?_
    refine go_run' ttok 1 rfl ?_
    obtain ⟨sv, hv10, hz5⟩ := of_obind hz5
    refine go_call fn43 (r27_SameBoard_w e e1 sv hv10) rfl rfl rfl rfl rfl rfl rfl ?_
    refine go_run' ttok 1 rfl ?_
    refine go_nil (fun _ => by kernel_rfl) ?_
    refine then_norm ?_
    refine awp_cond (b := (!sv)) rfl (fun c11 => ?_) (fun c11 => ?_)
    ·replace hz5 := of_bif_t hz5 c11
     refine awp_seq (awp_go hmix (go_run' ttok 1 rfl (go_nil nd (then_norm (awp_ret (block_ret (then_ret ?_)))))))
     obtain ⟨t, hn12, hq⟩ := of_mapr' hz5
     subst hq
     have hq : t = _ := hk6
     subst hq
     refine then_ret (block_ret ?_)
     obtain ⟨t1, hn13, hq⟩ := of_mapl' hn12
     subst hq
     have hq := of_inl h
     replace hq := of_some hq
     subst hq
     refine then_ret ?_
     have e14 := of_some hn13
     subst e14
     refine ret_ret ?_
     refine fin0 ttok rfl rfl ?_
     exact (wkP_refl _ rfl)
    ·replace hz5 := of_bif_f hz5 c11
     refine awp_skip (block_norm (then_norm (awp_go hmix (go_run' ttok 3 rfl (go_nil nd ?_)))))
     have e15 := of_some hz5
     subst e15
     refine then_norm ⟨rfl, (W64 (i + 1)), [], ⟨rfl, rfl, rfl, rfl, rfl, ⟨wkP_id _ rfl, trivial⟩, trivial⟩, hk6⟩
   ·replace hz5 := of_bif_f hz5 c7
    refine awp_exit (then_exit ?_)
    obtain ⟨t2, hn16, hq⟩ := of_mapr' hz5
    subst hq
    have hq : t2 = _ := hk6
    subst hq
    refine then_exit (block_here ?_)
    have e17 := of_some hn16
    refine then_norm ⟨rfl, (), [], ⟨rfl, rfl, rfl, rfl, rfl, trivial, trivial⟩, e17⟩
  ·intro w hw4
   subst hw4
   replace h := of_inr h
   refine awp_seq (awp_go hmix (go_run' ttok 1 rfl (go_nil nd (then_norm (awp_ret ?_)))))
   have e18 := of_some h
   subst e18
   refine ret_ret ?_
   refine fin0 ttok rfl rfl ?_
   exact (wkP_refl _ rfl)

noncomputable def r27_SameBoxes_s1 (a : (List Bx)) (b : (List Bx)) (i : Int) : Option (Int ⊕ (Bool ⊕ Unit)) :=
 (bif (decide (i < ((a.length : Nat) : Int))) then (Option.bind (getI a i) (fun e => (Option.bind (getI b i) (fun e1 => (bif (!(eqV encBx e e1)) then some (Sum.inr (Sum.inl false)) else some (Sum.inl (W64 (i + 1)))))))) else some (Sum.inr (Sum.inr ())))
/-- sawmill/sawmillref27.SameBoxes -/
noncomputable def r27_SameBoxes_g (a : (List Bx)) (b : (List Bx)) : Option Bool :=
 (bif (((a.length : Nat) : Int) != ((b.length : Nat) : Int)) then some false else (Option.bind ((loopO (fun q => r27_SameBoxes_s1 a b q) 0) : Option (Bool ⊕ Unit)) (Sum.elim (fun q => some q) (fun _ => some true))))
theorem r27_SameBoxes_w (a : (List Bx)) (b : (List Bx)) (r : Bool) (h : r27_SameBoxes_g a b = some r) : Holds Try.prog 26 [((encL encBx) a), ((encL encBx) b)] [] (B r) [] := by
 unfold r27_SameBoxes_g at h
 refine holds_fn Try.func26 rfl Try.ntmps26 rfl rfl rfl (fun lim => ?_)
 refine awp_seq (awp_go hmix (go_run' ttok 1 rfl (go_nil nd (then_norm (awp_seq (awp_seq (awp_go hmix (go_run' ttok 1 rfl ?_))))))))
 refine go_lenT encBx a ttok rfl rfl rfl rfl rfl rfl ?_
 refine go_run' ttok 1 rfl ?_
 refine go_lenT encBx b ttok rfl rfl rfl rfl rfl rfl ?_
 refine go_run' ttok 1 rfl (go_nil nd (then_norm ?_))
 refine awp_cond (b := (((a.length : Nat) : Int) != ((b.length : Nat) : Int))) rfl (fun c1 => ?_) (fun c1 => ?_)
 ·replace h := of_bif_t h c1
  refine awp_seq (awp_go hmix (go_run' ttok 1 rfl (go_nil nd (then_norm (awp_ret (then_ret ?_))))))
  have e2 := of_some h
  subst e2
  refine ret_ret ?_
  refine fin0 ttok rfl rfl ?_
  exact (wkP_refl _ rfl)
 ·replace h := of_bif_f h c1
  refine awp_skip (then_norm ?_)
  obtain ⟨y, hx3, h⟩ := of_obind h
  refine awp_seqJ (X := Unit) [] [] (fun _ => []) (fun _ => []) (fun w => Sum.inr w = y) rfl rfl ?_ ?_
  ·skip
   refine awp_seq (awp_go hmix (go_run' ttok 1 rfl (go_nil nd (then_norm (awp_block ?_)))))
   refine awp_loopD (X := Int) (Y := (Bool ⊕ Unit)) [0, 1] [] (fun q => [(5, (I q))]) (fun q => []) (fun q => r27_SameBoxes_s1 a b q) 0 [] hx3 ⟨rfl, rfl, rfl, rfl, rfl, ⟨wkP_id _ rfl, trivial⟩, trivial⟩ (fun i vR vz hz5 hk6 => ?_)
   change r27_SameBoxes_s1 a b i = _ at hz5
   unfold r27_SameBoxes_s1 at hz5
   refine awp_seq (awp_seq (awp_go hmix (go_run' ttok 2 rfl ?_)))
   refine go_lenT encBx a ttok rfl rfl rfl rfl rfl rfl ?_
   refine go_run' ttok 1 rfl (go_nil nd (then_norm ?_))
   refine awp_cond (b := (decide (i < ((a.length : Nat) : Int)))) rfl (fun c7 => ?_) (fun c7 => ?_)
   ·replace hz5 := of_bif_t hz5 c7
    refine awp_skip (then_norm (awp_seq (awp_block (awp_seq (awp_go hmix (go_run' ttok 2 rfl ?_))))))
    obtain ⟨e, hv8, hz5⟩ := of_obind hz5
    refine go_indexT encBx a i e hv8 ttok rfl rfl rfl rfl rfl rfl rfl rfl rfl ?_
    refine go_run' ttok 3 rfl ?_
    obtain ⟨e1, hv9, hz5⟩ := of_obind hz5
    refine go_indexT encBx b i e1 hv9 ttok rfl rfl rfl rfl rfl rfl rfl rfl rfl ?_
    refine go_run' ttok 1 rfl ?_
    refine go_step rfl (as_neAgg shBx rfl eqT39_1 eqT39_2 (by decide) rfl rfl rfl rfl rfl) rfl rfl rfl ?_
    refine go_nil (fun _ => by kernel_rfl) ?_
    refine then_norm ?_
    refine awp_cond (b := (!(eqV encBx e e1))) rfl (fun c10 => ?_) (fun c10 => ?_)
    ·replace hz5 := of_bif_t hz5 c10
     refine awp_seq (awp_go hmix (go_run' ttok 1 rfl (go_nil nd (then_norm (awp_ret (block_ret (then_ret ?_)))))))
     obtain ⟨t, hn11, hq⟩ := of_mapr' hz5
     subst hq
     have hq : t = _ := hk6
     subst hq
     refine then_ret (block_ret ?_)
     obtain ⟨t1, hn12, hq⟩ := of_mapl' hn11
     subst hq
     have hq := of_inl h
     replace hq := of_some hq
     subst hq
     refine then_ret ?_
     have e13 := of_some hn12
     subst e13
     refine ret_ret ?_
     refine fin0 ttok rfl rfl ?_
     exact (wkP_refl _ rfl)
    ·replace hz5 := of_bif_f hz5 c10
     refine awp_skip (block_norm (then_norm (awp_go hmix (go_run' ttok 3 rfl (go_nil nd ?_)))))
     have e14 := of_some hz5
     subst e14
     refine then_norm ⟨rfl, (W64 (i + 1)), [], ⟨rfl, rfl, rfl, rfl, rfl, ⟨wkP_id _ rfl, trivial⟩, trivial⟩, hk6⟩
   ·replace hz5 := of_bif_f hz5 c7
    refine awp_exit (then_exit ?_)
    obtain ⟨t2, hn15, hq⟩ := of_mapr' hz5
    subst hq
    have hq : t2 = _ := hk6
    subst hq
    refine then_exit (block_here ?_)
    have e16 := of_some hn15
    refine then_norm ⟨rfl, (), [], ⟨rfl, rfl, rfl, rfl, rfl, trivial, trivial⟩, e16⟩
  ·intro w hw4
   subst hw4
   replace h := of_inr h
   refine awp_seq (awp_go hmix (go_run' ttok 1 rfl (go_nil nd (then_norm (awp_ret ?_)))))
   have e17 := of_some h
   subst e17
   refine ret_ret ?_
   refine fin0 ttok rfl rfl ?_
   exact (wkP_refl _ rfl)

/-- sawmill/sawmilllaw27.ResawSplits -/
noncomputable def l27_ResawSplits_g (x : Tsawmilllaw27_Split) : Option Bool :=
 (Option.bind (l27_small_g x) (fun sv => (bif (!sv) then (Option.bind l27_awake_g (fun av => some av)) else (Option.bind (l27_of_g x) (fun ov => (Option.bind (r27_Boards_g x.Board x.Products x.Parts x.Kerf) (fun bv => (Option.bind (r27_SameBoards_g ov.1 bv.1) (fun sv1 => (bif sv1 then (Option.bind (r27_SameBoxes_g ov.2.1 bv.2.1) (fun sv2 => (bif sv2 then (Option.bind (r27_SameBoxes_g ov.2.2.1 bv.2.2.1) (fun sv3 => (bif sv3 then (bif (ov.2.2.2 == bv.2.2.2) then (Option.bind l27_awake_g (fun av1 => some av1)) else some false) else some false))) else some false))) else some false))))))))))
theorem l27_ResawSplits_w (x : Tsawmilllaw27_Split) (r : Bool) (h : l27_ResawSplits_g x = some r) : Holds Try.prog 5 [(encTsawmilllaw27_Split x)] [] (B r) [] := by
 unfold l27_ResawSplits_g at h
 refine holds_fn Try.func5 rfl Try.ntmps5 rfl rfl rfl (fun lim => ?_)
 refine awp_seq (awp_go hmix (go_run' ttok 2 rfl (go_nil nd (then_norm (awp_seq (awp_seq (awp_go hmix (go_run' ttok 1 rfl ?_))))))))
 obtain ⟨sv, hv1, h⟩ := of_obind h
 refine go_call fn22 (l27_small_w x sv hv1) rfl rfl rfl rfl rfl rfl rfl ?_
 refine go_run' ttok 1 rfl (go_nil nd (then_norm ?_))
 refine awp_cond (b := (!sv)) rfl (fun c2 => ?_) (fun c2 => ?_)
 ·replace h := of_bif_t h c2
  refine awp_seq (awp_go hmix ?_)
  obtain ⟨av, hv3, h⟩ := of_obind h
  refine go_call fn12 (l27_awake_w av hv3) rfl rfl rfl rfl rfl rfl rfl ?_
  refine go_run' ttok 1 rfl (go_nil nd (then_norm (awp_ret (then_ret ?_))))
  have e4 := of_some h
  subst e4
  refine ret_ret ?_
  refine fin0 ttok rfl rfl ?_
  exact (wkP_refl _ rfl)
 ·replace h := of_bif_f h c2
  refine awp_skip (then_norm (awp_seq (awp_go hmix (go_run' ttok 1 rfl ?_))))
  obtain ⟨ov, hv5, h⟩ := of_obind h
  refine go_call fn23 (l27_of_w x ov hv5) rfl rfl rfl rfl rfl rfl rfl ?_
  refine go_run' ttok 9 rfl (go_nil nd (then_norm (awp_seq (awp_go hmix (go_run' ttok 8 rfl ?_)))))
  obtain ⟨bv, hv6, h⟩ := of_obind h
  refine go_call fn24 (r27_Boards_w x.Board x.Products x.Parts x.Kerf bv hv6) rfl rfl rfl rfl rfl rfl rfl ?_
  refine go_run' ttok 9 rfl (go_nil nd (then_norm (awp_seq (awp_go hmix (go_run' ttok 2 rfl ?_)))))
  obtain ⟨sv1, hv7, h⟩ := of_obind h
  refine go_call fn25 (r27_SameBoards_w ov.1 bv.1 sv1 hv7) rfl rfl rfl rfl rfl rfl rfl ?_
  refine go_run' ttok 1 rfl ?_
  refine go_gcase rfl rfl rfl (fun g8 => ?_) (fun g8 => ?_)
  ·rw [g8]
   replace h := of_bif_t h g8
   refine go_run' ttok 2 rfl ?_
   obtain ⟨sv2, hv9, h⟩ := of_obind h
   refine go_call fn26 (r27_SameBoxes_w ov.2.1 bv.2.1 sv2 hv9) rfl rfl rfl rfl rfl rfl rfl ?_
   refine go_run' ttok 2 rfl ?_
   refine go_gcase rfl rfl rfl (fun g10 => ?_) (fun g10 => ?_)
   ·rw [g10]
    replace h := of_bif_t h g10
    refine go_run' ttok 2 rfl ?_
    obtain ⟨sv3, hv11, h⟩ := of_obind h
    refine go_call fn26 (r27_SameBoxes_w ov.2.2.1 bv.2.2.1 sv3 hv11) rfl rfl rfl rfl rfl rfl rfl ?_
    refine go_run' ttok 2 rfl ?_
    refine go_gcase rfl rfl rfl (fun g12 => ?_) (fun g12 => ?_)
    ·rw [g12]
     replace h := of_bif_t h g12
     refine go_run' ttok 5 rfl ?_
     refine go_gcase rfl rfl rfl (fun g13 => ?_) (fun g13 => ?_)
     ·rw [g13]
      replace h := of_bif_t h g13
      obtain ⟨av1, hv14, h⟩ := of_obind h
      refine go_call fn12 (l27_awake_w av1 hv14) rfl rfl rfl rfl rfl rfl rfl ?_
      refine go_run' ttok 2 rfl (go_nil nd (then_norm (awp_ret ?_)))
      have e15 := of_some h
      subst e15
      refine ret_ret ?_
      refine fin0 ttok rfl rfl ?_
      exact (wkP_refl _ rfl)
     ·rw [g13]
      replace h := of_bif_f h g13
      refine go_run' ttok 3 rfl (go_nil nd (then_norm (awp_ret ?_)))
      have e16 := of_some h
      subst e16
      refine ret_ret ?_
      refine fin0 ttok rfl rfl ?_
      exact (wkP_refl _ rfl)
    ·rw [g12]
     replace h := of_bif_f h g12
     refine go_run' ttok 8 rfl (go_nil nd (then_norm (awp_ret ?_)))
     have e17 := of_some h
     subst e17
     refine ret_ret ?_
     refine fin0 ttok rfl rfl ?_
     exact (wkP_refl _ rfl)
   ·rw [g10]
    replace h := of_bif_f h g10
    refine go_run' ttok 13 rfl (go_nil nd (then_norm (awp_ret ?_)))
    have e18 := of_some h
    subst e18
    refine ret_ret ?_
    refine fin0 ttok rfl rfl ?_
    exact (wkP_refl _ rfl)
  ·rw [g8]
   replace h := of_bif_f h g8
   refine go_run' ttok 18 rfl (go_nil nd (then_norm (awp_ret ?_)))
   have e19 := of_some h
   subst e19
   refine ret_ret ?_
   refine fin0 ttok rfl rfl ?_
   exact (wkP_refl _ rfl)

noncomputable def l27_ResawParts_s1 (x : Tsawmilllaw27_Parts) (sv : ((List Sp) × (List Sp) × Sp × Int)) (vat1 : Int) (k1 : Int) (i : Int) : Option ((Int × Int × Int) ⊕ (Bool ⊕ (Int × Int))) :=
 (bif (decide (i < ((sv.1.length : Nat) : Int))) then (Option.bind (getI sv.1 i) (fun e => (Option.bind (getI x.Sizes i) (fun e1 => (bif (!(eqV encSp e (⟨vat1, (W64 (vat1 + e1))⟩ : Sp))) then some (Sum.inr (Sum.inl false)) else (Option.bind (getI sv.1 i) (fun e2 => (Option.bind ((bif (decide (k1 < ((sv.2.1.length : Nat) : Int))) then (Option.bind (getI sv.2.1 k1) (fun e3 => some (e3.a == e2.b))) else some false) : Option Bool) (fun vv => (bif vv then (Option.bind (getI sv.2.1 k1) (fun e4 => (bif (decide (e4.b ≤ e2.b)) then some (Sum.inr (Sum.inl false)) else (Option.bind (getI sv.2.1 k1) (fun e5 => (bif (decide (x.Thick < e5.b)) then some (Sum.inr (Sum.inl false)) else (Option.bind (getI sv.2.1 k1) (fun e6 => (bif (decide (x.Kerf < (W64 (e6.b - e2.b)))) then some (Sum.inr (Sum.inl false)) else (Option.bind (getI sv.2.1 k1) (fun e7 => (bif (decide ((W64 (e7.b - e2.b)) < x.Kerf)) then (Option.bind (getI sv.2.1 k1) (fun e8 => (bif (e8.b != x.Thick) then some (Sum.inr (Sum.inl false)) else (Option.bind (getI sv.2.1 k1) (fun e9 => some (Sum.inl (e9.b, (W64 (k1 + 1)), (W64 (i + 1))))))))) else (Option.bind (getI sv.2.1 k1) (fun e10 => some (Sum.inl (e10.b, (W64 (k1 + 1)), (W64 (i + 1)))))))))))))))))) else (bif (decide (0 < x.Kerf)) then (bif (decide (e2.b < x.Thick)) then some (Sum.inr (Sum.inl false)) else some (Sum.inl (e2.b, k1, (W64 (i + 1))))) else some (Sum.inl (e2.b, k1, (W64 (i + 1))))))))))))))) else some (Sum.inr (Sum.inr (vat1, k1))))
/-- sawmill/sawmilllaw27.ResawParts -/
noncomputable def l27_ResawParts_g (x : Tsawmilllaw27_Parts) : Option Bool :=
 (bif (!(l27_few_g x)) then (Option.bind l27_awake_g (fun av => some av)) else (Option.bind (resaw_Spans_g x.Thick x.Kerf x.Sizes) (fun sv => (Option.bind (resaw_Check_g x.Thick x.Kerf x.Sizes) (fun cv => (bif (sv.2.2.2 != cv) then some false else (bif (sv.2.2.2 != 0) then (bif (((sv.1.length : Nat) : Int) == 0) then (bif (((sv.2.1.length : Nat) : Int) == 0) then (bif (eqV encSp sv.2.2.1 (⟨0, 0⟩ : Sp)) then (Option.bind l27_awake_g (fun av1 => some av1)) else some false) else some false) else some false) else (bif (((sv.1.length : Nat) : Int) != ((x.Sizes.length : Nat) : Int)) then some false else (Option.bind ((loopO (fun q => l27_ResawParts_s1 x sv q.1 q.2.1 q.2.2) (0, 0, 0)) : Option (Bool ⊕ (Int × Int))) (Sum.elim (fun q => some q) (fun w2 => (bif (decide (w2.1 < x.Thick)) then (bif (w2.2 == ((sv.2.1.length : Nat) : Int)) then (bif (eqV encSp sv.2.2.1 (⟨w2.1, x.Thick⟩ : Sp)) then (Option.bind l27_awake_g (fun av2 => some av2)) else some false) else some false) else (bif (w2.1 == x.Thick) then (bif (w2.2 == ((sv.2.1.length : Nat) : Int)) then (bif (eqV encSp sv.2.2.1 (⟨0, 0⟩ : Sp)) then (Option.bind l27_awake_g (fun av3 => some av3)) else some false) else some false) else some false)))))))))))))
theorem l27_ResawParts_w (x : Tsawmilllaw27_Parts) (r : Bool) (h : l27_ResawParts_g x = some r) : Holds Try.prog 6 [(encTsawmilllaw27_Parts x)] [] (B r) [] := by
 unfold l27_ResawParts_g at h
 refine holds_fn Try.func6 rfl Try.ntmps6 rfl rfl rfl (fun lim => ?_)
 refine awp_seq (awp_go hmix (go_run' ttok 2 rfl (go_nil nd (then_norm (awp_seq (awp_seq (awp_go hmix (go_run' ttok 1 rfl ?_))))))))
 refine go_call fn11 (l27_few_w x _ rfl) rfl rfl rfl rfl rfl rfl rfl ?_
 refine go_run' ttok 1 rfl (go_nil nd (then_norm ?_))
 refine awp_cond (b := (!(l27_few_g x))) rfl (fun c1 => ?_) (fun c1 => ?_)
 ·replace h := of_bif_t h c1
  refine awp_seq (awp_go hmix ?_)
  obtain ⟨av, hv2, h⟩ := of_obind h
  refine go_call fn12 (l27_awake_w av hv2) rfl rfl rfl rfl rfl rfl rfl ?_
  refine go_run' ttok 1 rfl (go_nil nd (then_norm (awp_ret (then_ret ?_))))
  have e3 := of_some h
  subst e3
  refine ret_ret ?_
  refine fin0 ttok rfl rfl ?_
  exact (wkP_refl _ rfl)
 ·replace h := of_bif_f h c1
  refine awp_skip (then_norm (awp_seq (awp_go hmix (go_run' ttok 6 rfl ?_))))
  obtain ⟨sv, hv4, h⟩ := of_obind h
  refine go_call fn13 (resaw_Spans_w x.Thick x.Kerf x.Sizes sv hv4) rfl rfl rfl rfl rfl rfl rfl ?_
  refine go_run' ttok 10 rfl (go_nil nd (then_norm (awp_seq (awp_seq (awp_go hmix (go_run' ttok 7 rfl ?_))))))
  obtain ⟨cv, hv5, h⟩ := of_obind h
  refine go_call fn15 (resaw_Check_w x.Thick x.Kerf x.Sizes cv hv5) rfl rfl rfl rfl rfl rfl rfl ?_
  refine go_run' ttok 1 rfl (go_nil nd (then_norm ?_))
  refine awp_cond (b := (sv.2.2.2 != cv)) rfl (fun c6 => ?_) (fun c6 => ?_)
  ·replace h := of_bif_t h c6
   refine awp_seq (awp_go hmix (go_run' ttok 1 rfl (go_nil nd (then_norm (awp_ret (then_ret ?_))))))
   have e7 := of_some h
   subst e7
   refine ret_ret ?_
   refine fin0 ttok rfl rfl ?_
   exact (wkP_refl _ rfl)
  ·replace h := of_bif_f h c6
   refine awp_skip (then_norm (awp_seq (awp_seq (awp_go hmix (go_run' ttok 2 rfl (go_nil nd (then_norm ?_)))))))
   refine awp_cond (b := (sv.2.2.2 != 0)) rfl (fun c8 => ?_) (fun c8 => ?_)
   ·replace h := of_bif_t h c8
    refine awp_seq (awp_go hmix (go_run' ttok 1 rfl ?_))
    refine go_lenT encSp sv.1 ttok rfl rfl rfl rfl rfl rfl ?_
    refine go_run' ttok 2 rfl ?_
    refine go_gcase rfl rfl rfl (fun g9 => ?_) (fun g9 => ?_)
    ·rw [g9]
     replace h := of_bif_t h g9
     refine go_run' ttok 1 rfl ?_
     refine go_lenT encSp sv.2.1 ttok rfl rfl rfl rfl rfl rfl ?_
     refine go_run' ttok 3 rfl ?_
     refine go_gcase rfl rfl rfl (fun g10 => ?_) (fun g10 => ?_)
     ·rw [g10]
      replace h := of_bif_t h g10
      refine go_run' ttok 2 rfl ?_
      refine go_step rfl (as_eqAgg shSp rfl eqT29_1 eqT29_2 (by decide) rfl rfl rfl rfl rfl) rfl rfl rfl ?_
      refine go_run' ttok 2 rfl ?_
      refine go_gcase rfl rfl rfl (fun g11 => ?_) (fun g11 => ?_)
      ·rw [g11]
       replace h := of_bif_t h g11
       obtain ⟨av1, hv12, h⟩ := of_obind h
       refine go_call fn12 (l27_awake_w av1 hv12) rfl rfl rfl rfl rfl rfl rfl ?_
       refine go_run' ttok 2 rfl (go_nil nd (then_norm (awp_ret (then_ret ?_))))
       have e13 := of_some h
       subst e13
       refine ret_ret ?_
       refine fin0 ttok rfl rfl ?_
       exact (wkP_refl _ rfl)
      ·rw [g11]
       replace h := of_bif_f h g11
       refine go_run' ttok 3 rfl (go_nil nd (then_norm (awp_ret (then_ret ?_))))
       have e14 := of_some h
       subst e14
       refine ret_ret ?_
       refine fin0 ttok rfl rfl ?_
       exact (wkP_refl _ rfl)
     ·rw [g10]
      replace h := of_bif_f h g10
      refine go_run' ttok 8 rfl (go_nil nd (then_norm (awp_ret (then_ret ?_))))
      have e15 := of_some h
      subst e15
      refine ret_ret ?_
      refine fin0 ttok rfl rfl ?_
      exact (wkP_refl _ rfl)
    ·rw [g9]
     replace h := of_bif_f h g9
     refine go_run' ttok 13 rfl (go_nil nd (then_norm (awp_ret (then_ret ?_))))
     have e16 := of_some h
     subst e16
     refine ret_ret ?_
     refine fin0 ttok rfl rfl ?_
     exact (wkP_refl _ rfl)
   ·replace h := of_bif_f h c8
    refine awp_skip (then_norm (awp_seq (awp_seq (awp_go hmix (go_run' ttok 1 rfl ?_)))))
    refine go_lenT encSp sv.1 ttok rfl rfl rfl rfl rfl rfl ?_
    refine go_run' ttok 2 rfl ?_
    refine go_lenT I x.Sizes ttok rfl rfl rfl rfl rfl rfl ?_
    refine go_run' ttok 1 rfl (go_nil nd (then_norm ?_))
    refine awp_cond (b := (((sv.1.length : Nat) : Int) != ((x.Sizes.length : Nat) : Int))) rfl (fun c17 => ?_) (fun c17 => ?_)
    ·replace h := of_bif_t h c17
     refine awp_seq (awp_go hmix (go_run' ttok 1 rfl (go_nil nd (then_norm (awp_ret (then_ret ?_))))))
     have e18 := of_some h
     subst e18
     refine ret_ret ?_
     refine fin0 ttok rfl rfl ?_
     exact (wkP_refl _ rfl)
    ·replace h := of_bif_f h c17
     refine awp_skip (then_norm (awp_seq (awp_go hmix (go_run' ttok 2 rfl (go_nil nd (then_norm ?_))))))
     obtain ⟨y, hx19, h⟩ := of_obind h
     refine awp_seqJ (X := (Int × Int)) [1, 4, 5] [1, 5] (fun w => [(7, (I w.1)), (8, (I w.2))]) (fun w => []) (fun w => Sum.inr w = y) rfl rfl ?_ ?_
     ·skip
      refine awp_seq (awp_go hmix (go_run' ttok 1 rfl (go_nil nd (then_norm (awp_block ?_)))))
      refine awp_loopD (X := (Int × Int × Int)) (Y := (Bool ⊕ (Int × Int))) [1, 3, 4, 5] [1, 5] (fun q => [(7, (I q.1)), (8, (I q.2.1)), (9, (I q.2.2))]) (fun q => []) (fun q => l27_ResawParts_s1 x sv q.1 q.2.1 q.2.2) (0, 0, 0) [(1, some 1), (5, some 5)] hx19 ⟨rfl, rfl, rfl, rfl, rfl, ⟨wkP_id _ rfl, wkP_id _ rfl, wkP_id _ rfl, trivial⟩, trivial⟩ (fun x1 vR vz hz21 hk22 => ?_)
      obtain ⟨vat1, k1, i⟩ := x1
      change l27_ResawParts_s1 x sv vat1 k1 i = _ at hz21
      unfold l27_ResawParts_s1 at hz21
      refine awp_seq (awp_seq (awp_go hmix (go_run' ttok 2 rfl ?_)))
      refine go_lenT encSp sv.1 ttok rfl rfl rfl rfl rfl rfl ?_
      refine go_run' ttok 1 rfl (go_nil nd (then_norm ?_))
      refine awp_cond (b := (decide (i < ((sv.1.length : Nat) : Int)))) rfl (fun c23 => ?_) (fun c23 => ?_)
      ·replace hz21 := of_bif_t hz21 c23
       refine awp_skip (then_norm (awp_seq (awp_block (awp_seq (awp_seq (awp_go hmix (go_run' ttok 2 rfl ?_)))))))
       obtain ⟨e, hv24, hz21⟩ := of_obind hz21
       refine go_indexT encSp sv.1 i e hv24 ttok rfl rfl rfl rfl rfl rfl rfl rfl rfl ?_
       refine go_run' ttok 6 rfl ?_
       obtain ⟨e1, hv25, hz21⟩ := of_obind hz21
       refine go_indexT I x.Sizes i e1 hv25 ttok rfl rfl rfl rfl rfl rfl rfl rfl rfl ?_
       refine go_run' ttok 3 rfl ?_
       refine go_step rfl (as_neAgg shSp rfl eqT29_1 eqT29_2 (by decide) rfl rfl rfl rfl rfl) rfl rfl rfl ?_
       refine go_nil (fun _ => by kernel_rfl) ?_
       refine then_norm ?_
       refine awp_cond (b := (!(eqV encSp e (⟨vat1, (W64 (vat1 + e1))⟩ : Sp)))) rfl (fun c26 => ?_) (fun c26 => ?_)
       ·replace hz21 := of_bif_t hz21 c26
        refine awp_seq (awp_go hmix (go_run' ttok 1 rfl (go_nil nd (then_norm (awp_ret (then_ret (block_ret (then_ret ?_))))))))
        obtain ⟨t, hn27, hq⟩ := of_mapr' hz21
        subst hq
        have hq : t = _ := hk22
        subst hq
        refine then_ret (block_ret ?_)
        obtain ⟨t1, hn28, hq⟩ := of_mapl' hn27
        subst hq
        have hq := of_inl h
        replace hq := of_some hq
        subst hq
        refine then_ret ?_
        have e29 := of_some hn28
        subst e29
        refine ret_ret ?_
        refine fin0 ttok rfl rfl ?_
        exact (wkP_refl _ rfl)
       ·replace hz21 := of_bif_f hz21 c26
        refine awp_skip (then_norm (awp_seq (awp_go hmix (go_run' ttok 2 rfl ?_))))
        obtain ⟨e2, hv30, hz21⟩ := of_obind hz21
        refine go_indexT encSp sv.1 i e2 hv30 ttok rfl rfl rfl rfl rfl rfl rfl rfl rfl ?_
        refine go_run' ttok 3 rfl (go_nil nd (then_norm ?_))
        obtain ⟨y1, hx31, hz21⟩ := of_obind hz21
        refine awp_seqJ (X := Bool) [1, 3, 4, 5, 7, 8, 9] [1, 5] (fun w1 => [(96, (B w1))]) (fun w1 => []) (fun w1 => w1 = y1) rfl rfl ?_ ?_
        ·skip
         refine awp_go hmix (go_run' ttok 2 rfl ?_)
         refine go_lenT encSp sv.2.1 ttok rfl rfl rfl rfl rfl rfl ?_
         refine go_run' ttok 2 rfl ?_
         refine go_gcase rfl rfl rfl (fun g33 => ?_) (fun g33 => ?_)
         ·rw [g33]
          replace hx31 := of_bif_t hx31 g33
          refine go_run' ttok 2 rfl ?_
          obtain ⟨e3, hv34, hx31⟩ := of_obind hx31
          refine go_indexT encSp sv.2.1 k1 e3 hv34 ttok rfl rfl rfl rfl rfl rfl rfl rfl rfl ?_
          refine go_run' ttok 5 rfl (go_nil nd ?_)
          have e35 := of_some hx31
          refine then_norm ⟨rfl, (e3.a == e2.b), [(1, some 1), (5, some 5)], ⟨rfl, rfl, rfl, rfl, rfl, ⟨wkP_id _ rfl, trivial⟩, trivial⟩, e35⟩
         ·rw [g33]
          replace hx31 := of_bif_f hx31 g33
          refine go_run' ttok 8 rfl (go_nil nd ?_)
          have e36 := of_some hx31
          refine then_norm ⟨rfl, false, [(1, some 1), (5, some 5)], ⟨rfl, rfl, rfl, rfl, rfl, ⟨wkP_id _ rfl, trivial⟩, trivial⟩, e36⟩
        ·intro vv hw32
         subst hw32
         refine awp_cond (b := vv) rfl (fun c37 => ?_) (fun c37 => ?_)
         ·replace hz21 := of_bif_t hz21 c37
          refine awp_seq (awp_seq (awp_go hmix (go_run' ttok 2 rfl ?_)))
          obtain ⟨e4, hv38, hz21⟩ := of_obind hz21
          refine go_indexT encSp sv.2.1 k1 e4 hv38 ttok rfl rfl rfl rfl rfl rfl rfl rfl rfl ?_
          refine go_run' ttok 5 rfl ?_
          refine go_gcase rfl rfl rfl (fun g39 => ?_) (fun g39 => ?_)
          ·rw [g39]
           replace hz21 := of_bif_t hz21 g39
           refine go_run' ttok 43 rfl ?_
           refine go_nil (fun _ => by kernel_rfl) ?_
           refine then_norm ?_
           refine awp_cond rfl (fun tt0 => ?_) (fun h => by cases h)
           clear tt0
           refine awp_seq (awp_go hmix (go_run' ttok 1 rfl (go_nil nd (then_norm (awp_ret (then_ret (block_ret (then_ret ?_))))))))
           obtain ⟨t2, hn40, hq⟩ := of_mapr' hz21
           subst hq
           have hq : t2 = _ := hk22
           subst hq
           refine then_ret (block_ret ?_)
           obtain ⟨t3, hn41, hq⟩ := of_mapl' hn40
           subst hq
           have hq := of_inl h
           replace hq := of_some hq
           subst hq
           refine then_ret ?_
           have e42 := of_some hn41
           subst e42
           refine ret_ret ?_
           refine fin0 ttok rfl rfl ?_
           exact (wkP_refl _ rfl)
          ·rw [g39]
           replace hz21 := of_bif_f hz21 g39
           refine go_run' ttok 2 rfl ?_
           obtain ⟨e5, hv43, hz21⟩ := of_obind hz21
           refine go_indexT encSp sv.2.1 k1 e5 hv43 ttok rfl rfl rfl rfl rfl rfl rfl rfl rfl ?_
           refine go_run' ttok 7 rfl ?_
           refine go_gcase rfl rfl rfl (fun g44 => ?_) (fun g44 => ?_)
           ·rw [g44]
            replace hz21 := of_bif_t hz21 g44
            refine go_run' ttok 33 rfl ?_
            refine go_nil (fun _ => by kernel_rfl) ?_
            refine then_norm ?_
            refine awp_cond rfl (fun tt0 => ?_) (fun h => by cases h)
            clear tt0
            refine awp_seq (awp_go hmix (go_run' ttok 1 rfl (go_nil nd (then_norm (awp_ret (then_ret (block_ret (then_ret ?_))))))))
            obtain ⟨t4, hn45, hq⟩ := of_mapr' hz21
            subst hq
            have hq : t4 = _ := hk22
            subst hq
            refine then_ret (block_ret ?_)
            obtain ⟨t5, hn46, hq⟩ := of_mapl' hn45
            subst hq
            have hq := of_inl h
            replace hq := of_some hq
            subst hq
            refine then_ret ?_
            have e47 := of_some hn46
            subst e47
            refine ret_ret ?_
            refine fin0 ttok rfl rfl ?_
            exact (wkP_refl _ rfl)
           ·rw [g44]
            replace hz21 := of_bif_f hz21 g44
            refine go_run' ttok 2 rfl ?_
            obtain ⟨e6, hv48, hz21⟩ := of_obind hz21
            refine go_indexT encSp sv.2.1 k1 e6 hv48 ttok rfl rfl rfl rfl rfl rfl rfl rfl rfl ?_
            refine go_run' ttok 9 rfl ?_
            refine go_gcase rfl rfl rfl (fun g49 => ?_) (fun g49 => ?_)
            ·rw [g49]
             replace hz21 := of_bif_t hz21 g49
             refine go_run' ttok 21 rfl ?_
             refine go_nil (fun _ => by kernel_rfl) ?_
             refine then_norm ?_
             refine awp_cond rfl (fun tt0 => ?_) (fun h => by cases h)
             clear tt0
             refine awp_seq (awp_go hmix (go_run' ttok 1 rfl (go_nil nd (then_norm (awp_ret (then_ret (block_ret (then_ret ?_))))))))
             obtain ⟨t6, hn50, hq⟩ := of_mapr' hz21
             subst hq
             have hq : t6 = _ := hk22
             subst hq
             refine then_ret (block_ret ?_)
             obtain ⟨t7, hn51, hq⟩ := of_mapl' hn50
             subst hq
             have hq := of_inl h
             replace hq := of_some hq
             subst hq
             refine then_ret ?_
             have e52 := of_some hn51
             subst e52
             refine ret_ret ?_
             refine fin0 ttok rfl rfl ?_
             exact (wkP_refl _ rfl)
            ·rw [g49]
             replace hz21 := of_bif_f hz21 g49
             refine go_run' ttok 2 rfl ?_
             obtain ⟨e7, hv53, hz21⟩ := of_obind hz21
             refine go_indexT encSp sv.2.1 k1 e7 hv53 ttok rfl rfl rfl rfl rfl rfl rfl rfl rfl ?_
             refine go_run' ttok 8 rfl ?_
             refine go_gcase rfl rfl rfl (fun g54 => ?_) (fun g54 => ?_)
             ·rw [g54]
              replace hz21 := of_bif_t hz21 g54
              refine go_run' ttok 2 rfl ?_
              obtain ⟨e8, hv55, hz21⟩ := of_obind hz21
              refine go_indexT encSp sv.2.1 k1 e8 hv55 ttok rfl rfl rfl rfl rfl rfl rfl rfl rfl ?_
              refine go_run' ttok 7 rfl ?_
              refine go_nil (fun _ => by kernel_rfl) ?_
              refine then_norm ?_
              refine awp_cond (b := (e8.b != x.Thick)) rfl (fun c56 => ?_) (fun c56 => ?_)
              ·replace hz21 := of_bif_t hz21 c56
               refine awp_seq (awp_go hmix (go_run' ttok 1 rfl (go_nil nd (then_norm (awp_ret (then_ret (block_ret (then_ret ?_))))))))
               obtain ⟨t8, hn57, hq⟩ := of_mapr' hz21
               subst hq
               have hq : t8 = _ := hk22
               subst hq
               refine then_ret (block_ret ?_)
               obtain ⟨t9, hn58, hq⟩ := of_mapl' hn57
               subst hq
               have hq := of_inl h
               replace hq := of_some hq
               subst hq
               refine then_ret ?_
               have e59 := of_some hn58
               subst e59
               refine ret_ret ?_
               refine fin0 ttok rfl rfl ?_
               exact (wkP_refl _ rfl)
              ·replace hz21 := of_bif_f hz21 c56
               refine awp_skip (then_norm (awp_seq (awp_go hmix (go_run' ttok 2 rfl ?_))))
               obtain ⟨e9, hv60, hz21⟩ := of_obind hz21
               refine go_indexT encSp sv.2.1 k1 e9 hv60 ttok rfl rfl rfl rfl rfl rfl rfl rfl rfl ?_
               refine go_run' ttok 3 rfl (go_nil nd (then_norm (awp_go hmix (go_run' ttok 3 rfl (go_nil nd (block_norm (then_norm (awp_go hmix (go_run' ttok 3 rfl (go_nil nd ?_))))))))))
               have e61 := of_some hz21
               subst e61
               refine then_norm ⟨rfl, (e9.b, (W64 (k1 + 1)), (W64 (i + 1))), [(1, some 1), (5, some 5)], ⟨rfl, rfl, rfl, rfl, rfl, ⟨wkP_id _ rfl, wkP_id _ rfl, wkP_id _ rfl, trivial⟩, trivial⟩, hk22⟩
             ·rw [g54]
              replace hz21 := of_bif_f hz21 g54
              refine go_run' ttok 10 rfl ?_
              refine go_nil (fun _ => by kernel_rfl) ?_
              refine then_norm ?_
              refine awp_cond rfl (fun h => by cases h) (fun tt0 => ?_)
              clear tt0
              refine awp_skip (then_norm (awp_seq (awp_go hmix (go_run' ttok 2 rfl ?_))))
              obtain ⟨e10, hv62, hz21⟩ := of_obind hz21
              refine go_indexT encSp sv.2.1 k1 e10 hv62 ttok rfl rfl rfl rfl rfl rfl rfl rfl rfl ?_
              refine go_run' ttok 3 rfl (go_nil nd (then_norm (awp_go hmix (go_run' ttok 3 rfl (go_nil nd (block_norm (then_norm (awp_go hmix (go_run' ttok 3 rfl (go_nil nd ?_))))))))))
              have e63 := of_some hz21
              subst e63
              refine then_norm ⟨rfl, (e10.b, (W64 (k1 + 1)), (W64 (i + 1))), [(1, some 1), (5, some 5)], ⟨rfl, rfl, rfl, rfl, rfl, ⟨wkP_id _ rfl, wkP_id _ rfl, wkP_id _ rfl, trivial⟩, trivial⟩, hk22⟩
         ·replace hz21 := of_bif_f hz21 c37
          refine awp_seq (awp_go hmix (go_run' ttok 4 rfl ?_))
          refine go_gcase rfl rfl rfl (fun g64 => ?_) (fun g64 => ?_)
          ·rw [g64]
           replace hz21 := of_bif_t hz21 g64
           refine go_run' ttok 5 rfl (go_nil nd (then_norm ?_))
           refine awp_cond (b := (decide (e2.b < x.Thick))) rfl (fun c65 => ?_) (fun c65 => ?_)
           ·replace hz21 := of_bif_t hz21 c65
            refine awp_seq (awp_go hmix (go_run' ttok 1 rfl (go_nil nd (then_norm (awp_ret (block_ret (then_ret ?_)))))))
            obtain ⟨t10, hn66, hq⟩ := of_mapr' hz21
            subst hq
            have hq : t10 = _ := hk22
            subst hq
            refine then_ret (block_ret ?_)
            obtain ⟨t11, hn67, hq⟩ := of_mapl' hn66
            subst hq
            have hq := of_inl h
            replace hq := of_some hq
            subst hq
            refine then_ret ?_
            have e68 := of_some hn67
            subst e68
            refine ret_ret ?_
            refine fin0 ttok rfl rfl ?_
            exact (wkP_refl _ rfl)
           ·replace hz21 := of_bif_f hz21 c65
            refine awp_skip (block_norm (then_norm (awp_go hmix (go_run' ttok 3 rfl (go_nil nd ?_)))))
            have e69 := of_some hz21
            subst e69
            refine then_norm ⟨rfl, (e2.b, k1, (W64 (i + 1))), [(1, some 1), (5, some 5)], ⟨rfl, rfl, rfl, rfl, rfl, ⟨wkP_id _ rfl, wkP_id _ rfl, wkP_id _ rfl, trivial⟩, trivial⟩, hk22⟩
          ·rw [g64]
           replace hz21 := of_bif_f hz21 g64
           refine go_run' ttok 5 rfl (go_nil nd (then_norm ?_))
           refine awp_cond rfl (fun h => by cases h) (fun tt0 => ?_)
           clear tt0
           refine awp_skip (block_norm (then_norm (awp_go hmix (go_run' ttok 3 rfl (go_nil nd ?_)))))
           have e70 := of_some hz21
           subst e70
           refine then_norm ⟨rfl, (e2.b, k1, (W64 (i + 1))), [(1, some 1), (5, some 5)], ⟨rfl, rfl, rfl, rfl, rfl, ⟨wkP_id _ rfl, wkP_id _ rfl, wkP_id _ rfl, trivial⟩, trivial⟩, hk22⟩
      ·replace hz21 := of_bif_f hz21 c23
       refine awp_exit (then_exit ?_)
       obtain ⟨t12, hn71, hq⟩ := of_mapr' hz21
       subst hq
       have hq : t12 = _ := hk22
       subst hq
       refine then_exit (block_here ?_)
       have e72 := of_some hn71
       refine then_norm ⟨rfl, (vat1, k1), [(1, some 1), (5, some 5)], ⟨rfl, rfl, rfl, rfl, rfl, ⟨wkP_id _ rfl, wkP_id _ rfl, trivial⟩, trivial⟩, e72⟩
     ·intro w hw20
      subst hw20
      replace h := of_inr h
      obtain ⟨vat, k⟩ := w
      refine awp_seq (awp_seq (awp_go hmix (go_run' ttok 4 rfl (go_nil nd (then_norm ?_)))))
      refine awp_cond (b := (decide (vat < x.Thick))) rfl (fun c73 => ?_) (fun c73 => ?_)
      ·replace h := of_bif_t h c73
       refine awp_seq (awp_go hmix (go_run' ttok 2 rfl ?_))
       refine go_lenT encSp sv.2.1 ttok rfl rfl rfl rfl rfl rfl ?_
       refine go_run' ttok 2 rfl ?_
       refine go_gcase rfl rfl rfl (fun g74 => ?_) (fun g74 => ?_)
       ·rw [g74]
        replace h := of_bif_t h g74
        refine go_run' ttok 5 rfl ?_
        refine go_step rfl (as_eqAgg shSp rfl eqT29_1 eqT29_2 (by decide) rfl rfl rfl rfl rfl) rfl rfl rfl ?_
        refine go_run' ttok 2 rfl ?_
        refine go_gcase rfl rfl rfl (fun g75 => ?_) (fun g75 => ?_)
        ·rw [g75]
         replace h := of_bif_t h g75
         obtain ⟨av2, hv76, h⟩ := of_obind h
         refine go_call fn12 (l27_awake_w av2 hv76) rfl rfl rfl rfl rfl rfl rfl ?_
         refine go_run' ttok 2 rfl (go_nil nd (then_norm (awp_ret (then_ret ?_))))
         have e77 := of_some h
         subst e77
         refine ret_ret ?_
         refine fin0 ttok rfl rfl ?_
         exact (wkP_refl _ rfl)
        ·rw [g75]
         replace h := of_bif_f h g75
         refine go_run' ttok 3 rfl (go_nil nd (then_norm (awp_ret (then_ret ?_))))
         have e78 := of_some h
         subst e78
         refine ret_ret ?_
         refine fin0 ttok rfl rfl ?_
         exact (wkP_refl _ rfl)
       ·rw [g74]
        replace h := of_bif_f h g74
        refine go_run' ttok 11 rfl (go_nil nd (then_norm (awp_ret (then_ret ?_))))
        have e79 := of_some h
        subst e79
        refine ret_ret ?_
        refine fin0 ttok rfl rfl ?_
        exact (wkP_refl _ rfl)
      ·replace h := of_bif_f h c73
       refine awp_skip (then_norm (awp_seq (awp_go hmix (go_run' ttok 5 rfl ?_))))
       refine go_gcase rfl rfl rfl (fun g80 => ?_) (fun g80 => ?_)
       ·rw [g80]
        replace h := of_bif_t h g80
        refine go_run' ttok 2 rfl ?_
        refine go_lenT encSp sv.2.1 ttok rfl rfl rfl rfl rfl rfl ?_
        refine go_run' ttok 3 rfl ?_
        refine go_gcase rfl rfl rfl (fun g81 => ?_) (fun g81 => ?_)
        ·rw [g81]
         replace h := of_bif_t h g81
         refine go_run' ttok 2 rfl ?_
         refine go_step rfl (as_eqAgg shSp rfl eqT29_1 eqT29_2 (by decide) rfl rfl rfl rfl rfl) rfl rfl rfl ?_
         refine go_run' ttok 2 rfl ?_
         refine go_gcase rfl rfl rfl (fun g82 => ?_) (fun g82 => ?_)
         ·rw [g82]
          replace h := of_bif_t h g82
          obtain ⟨av3, hv83, h⟩ := of_obind h
          refine go_call fn12 (l27_awake_w av3 hv83) rfl rfl rfl rfl rfl rfl rfl ?_
          refine go_run' ttok 2 rfl (go_nil nd (then_norm (awp_ret ?_)))
          have e84 := of_some h
          subst e84
          refine ret_ret ?_
          refine fin0 ttok rfl rfl ?_
          exact (wkP_refl _ rfl)
         ·rw [g82]
          replace h := of_bif_f h g82
          refine go_run' ttok 3 rfl (go_nil nd (then_norm (awp_ret ?_)))
          have e85 := of_some h
          subst e85
          refine ret_ret ?_
          refine fin0 ttok rfl rfl ?_
          exact (wkP_refl _ rfl)
        ·rw [g81]
         replace h := of_bif_f h g81
         refine go_run' ttok 8 rfl (go_nil nd (then_norm (awp_ret ?_)))
         have e86 := of_some h
         subst e86
         refine ret_ret ?_
         refine fin0 ttok rfl rfl ?_
         exact (wkP_refl _ rfl)
       ·rw [g80]
        replace h := of_bif_f h g80
        refine go_run' ttok 14 rfl (go_nil nd (then_norm (awp_ret ?_)))
        have e87 := of_some h
        subst e87
        refine ret_ret ?_
        refine fin0 ttok rfl rfl ?_
        exact (wkP_refl _ rfl)

noncomputable def l27_sum_s1 (x : Tsawmilllaw27_Parts) (l : (List Int)) (sizes1 : (List Int)) (n1 : Int) (i : Int) : Option (((List Int) × Int × Int) ⊕ (((List Int) × Int × Bool) ⊕ ((List Int) × Int))) :=
 (bif (decide (i < ((l.length : Nat) : Int))) then (Option.bind (getI l i) (fun e => (bif (decide (e < 0)) then some (Sum.inr (Sum.inl ([], 0, false))) else (Option.bind (getI l i) (fun e1 => (bif (decide (((x.Sizes.length : Nat) : Int) ≤ e1)) then some (Sum.inr (Sum.inl ([], 0, false))) else (Option.bind (getI l i) (fun e2 => (bif (decide (((x.Prices.length : Nat) : Int) ≤ e2)) then some (Sum.inr (Sum.inl ([], 0, false))) else (Option.bind (getI l i) (fun e3 => (Option.bind (getI x.Sizes e3) (fun e4 => (Option.bind (appO 8 sizes1 ([e4])) (fun l1 => (Option.bind (getI l i) (fun e5 => (Option.bind (getI x.Prices e5) (fun e6 => some (Sum.inl (l1, (W64 (n1 + e6)), (W64 (i + 1))))))))))))))))))))))) else some (Sum.inr (Sum.inr (sizes1, n1))))
/-- sawmill/sawmilllaw27.sum -/
noncomputable def l27_sum_g (x : Tsawmilllaw27_Parts) (l : (List Int)) : Option ((List Int) × Int × Bool) :=
 (Option.bind ((loopO (fun q => l27_sum_s1 x l q.1 q.2.1 q.2.2) ([], 0, 0)) : Option (((List Int) × Int × Bool) ⊕ ((List Int) × Int))) (Sum.elim (fun q => some q) (fun w1 => some (w1.1, w1.2, true))))
theorem l27_sum_w (x : Tsawmilllaw27_Parts) (l : (List Int)) (r : ((List Int) × Int × Bool)) (h : l27_sum_g x l = some r) : Holds Try.prog 27 [(encTsawmilllaw27_Parts x), ((encL I) l)] [] (.tup [((encL I) r.1), (I r.2.1), (B r.2.2)]) [] := by
 unfold l27_sum_g at h
 refine holds_fn Try.func27 rfl Try.ntmps27 rfl rfl rfl (fun lim => ?_)
 refine awp_seq (awp_go hmix (go_run' ttok 4 rfl (go_nil nd (then_norm ?_))))
 obtain ⟨y, hx1, h⟩ := of_obind h
 refine awp_seqJ (X := ((List Int) × Int)) [] [] (fun w => [(4, (.arr 4 0 w.1.length)), (5, (I w.2))]) (fun w => [(4, some ⟨3, 1, w.1.map I⟩)]) (fun w => Sum.inr w = y) rfl rfl ?_ ?_
 ·skip
  refine awp_seq (awp_go hmix (go_run' ttok 1 rfl (go_nil nd (then_norm (awp_block ?_)))))
  refine awp_loopD (X := ((List Int) × Int × Int)) (Y := (((List Int) × Int × Bool) ⊕ ((List Int) × Int))) [1, 2] [2] (fun q => [(4, (.arr 4 0 q.1.length)), (5, (I q.2.1)), (7, (I q.2.2))]) (fun q => [(4, some ⟨3, 1, q.1.map I⟩)]) (fun q => l27_sum_s1 x l q.1 q.2.1 q.2.2) ([], 0, 0) [(4, none), (2, some 2)] hx1 ⟨rfl, rfl, rfl, rfl, rfl, ⟨⟨rfl, rfl, (by first | rfl | (simp [setI]; done) | omega | (dsimp only; omega) | (simp [setI]; omega))⟩, wkP_id _ rfl, wkP_id _ rfl, trivial⟩, ⟨rfl, trivial⟩⟩ (fun x1 vR vz hz3 hk4 => ?_)
  obtain ⟨sizes1, n1, i⟩ := x1
  change l27_sum_s1 x l sizes1 n1 i = _ at hz3
  unfold l27_sum_s1 at hz3
  refine awp_seq (awp_seq (awp_go hmix (go_run' ttok 2 rfl ?_)))
  refine go_lenT I l ttok rfl rfl rfl rfl rfl rfl ?_
  refine go_run' ttok 1 rfl (go_nil nd (then_norm ?_))
  refine awp_cond (b := (decide (i < ((l.length : Nat) : Int)))) rfl (fun c5 => ?_) (fun c5 => ?_)
  ·replace hz3 := of_bif_t hz3 c5
   refine awp_skip (then_norm (awp_seq (awp_block (awp_seq (awp_seq (awp_go hmix (go_run' ttok 2 rfl ?_)))))))
   obtain ⟨e, hv6, hz3⟩ := of_obind hz3
   refine go_indexT I l i e hv6 ttok rfl rfl rfl rfl rfl rfl rfl rfl rfl ?_
   refine go_run' ttok 3 rfl ?_
   refine go_gcase rfl rfl rfl (fun g7 => ?_) (fun g7 => ?_)
   ·rw [g7]
    replace hz3 := of_bif_t hz3 g7
    refine go_run' ttok 19 rfl ?_
    refine go_nil (fun _ => by kernel_rfl) ?_
    refine then_norm ?_
    refine awp_cond rfl (fun tt0 => ?_) (fun h => by cases h)
    clear tt0
    refine awp_seq (awp_go hmix (go_run' ttok 3 rfl (go_nil nd (then_norm (awp_ret (then_ret (block_ret (then_ret ?_))))))))
    obtain ⟨t, hn8, hq⟩ := of_mapr' hz3
    subst hq
    have hq : t = _ := hk4
    subst hq
    refine then_ret (block_ret ?_)
    obtain ⟨t1, hn9, hq⟩ := of_mapl' hn8
    subst hq
    have hq := of_inl h
    replace hq := of_some hq
    subst hq
    refine then_ret ?_
    have e10 := of_some hn9
    subst e10
    refine ret_ret ?_
    refine fin0 ttok rfl rfl ?_
    exact ⟨wkP_nilm, (wkP_refl _ rfl), (wkP_refl _ rfl), trivial⟩
   ·rw [g7]
    replace hz3 := of_bif_f hz3 g7
    refine go_run' ttok 2 rfl ?_
    obtain ⟨e1, hv11, hz3⟩ := of_obind hz3
    refine go_indexT I l i e1 hv11 ttok rfl rfl rfl rfl rfl rfl rfl rfl rfl ?_
    refine go_run' ttok 3 rfl ?_
    refine go_lenT I x.Sizes ttok rfl rfl rfl rfl rfl rfl ?_
    refine go_run' ttok 3 rfl ?_
    refine go_gcase rfl rfl rfl (fun g12 => ?_) (fun g12 => ?_)
    ·rw [g12]
     replace hz3 := of_bif_t hz3 g12
     refine go_run' ttok 9 rfl ?_
     refine go_nil (fun _ => by kernel_rfl) ?_
     refine then_norm ?_
     refine awp_cond rfl (fun tt0 => ?_) (fun h => by cases h)
     clear tt0
     refine awp_seq (awp_go hmix (go_run' ttok 3 rfl (go_nil nd (then_norm (awp_ret (then_ret (block_ret (then_ret ?_))))))))
     obtain ⟨t2, hn13, hq⟩ := of_mapr' hz3
     subst hq
     have hq : t2 = _ := hk4
     subst hq
     refine then_ret (block_ret ?_)
     obtain ⟨t3, hn14, hq⟩ := of_mapl' hn13
     subst hq
     have hq := of_inl h
     replace hq := of_some hq
     subst hq
     refine then_ret ?_
     have e15 := of_some hn14
     subst e15
     refine ret_ret ?_
     refine fin0 ttok rfl rfl ?_
     exact ⟨wkP_nilm, (wkP_refl _ rfl), (wkP_refl _ rfl), trivial⟩
    ·rw [g12]
     replace hz3 := of_bif_f hz3 g12
     refine go_run' ttok 2 rfl ?_
     obtain ⟨e2, hv16, hz3⟩ := of_obind hz3
     refine go_indexT I l i e2 hv16 ttok rfl rfl rfl rfl rfl rfl rfl rfl rfl ?_
     refine go_run' ttok 3 rfl ?_
     refine go_lenT I x.Prices ttok rfl rfl rfl rfl rfl rfl ?_
     refine go_run' ttok 2 rfl ?_
     refine go_nil (fun _ => by kernel_rfl) ?_
     refine then_norm ?_
     refine awp_cond (b := (decide (((x.Prices.length : Nat) : Int) ≤ e2))) rfl (fun c17 => ?_) (fun c17 => ?_)
     ·replace hz3 := of_bif_t hz3 c17
      refine awp_seq (awp_go hmix (go_run' ttok 3 rfl (go_nil nd (then_norm (awp_ret (then_ret (block_ret (then_ret ?_))))))))
      obtain ⟨t4, hn18, hq⟩ := of_mapr' hz3
      subst hq
      have hq : t4 = _ := hk4
      subst hq
      refine then_ret (block_ret ?_)
      obtain ⟨t5, hn19, hq⟩ := of_mapl' hn18
      subst hq
      have hq := of_inl h
      replace hq := of_some hq
      subst hq
      refine then_ret ?_
      have e20 := of_some hn19
      subst e20
      refine ret_ret ?_
      refine fin0 ttok rfl rfl ?_
      exact ⟨wkP_nilm, (wkP_refl _ rfl), (wkP_refl _ rfl), trivial⟩
     ·replace hz3 := of_bif_f hz3 c17
      refine awp_skip (then_norm (awp_seq (awp_go hmix (go_run' ttok 5 rfl ?_))))
      obtain ⟨e3, hv21, hz3⟩ := of_obind hz3
      refine go_indexT I l i e3 hv21 ttok rfl rfl rfl rfl rfl rfl rfl rfl rfl ?_
      refine go_run' ttok 1 rfl ?_
      obtain ⟨e4, hv22, hz3⟩ := of_obind hz3
      refine go_indexT I x.Sizes e3 e4 hv22 ttok rfl rfl rfl rfl rfl rfl rfl rfl rfl ?_
      refine go_run' ttok 2 rfl ?_
      obtain ⟨l1, hv23, hz3⟩ := of_obind hz3
      refine go_appT I sizes1 ([e4]) l1 hv23 (fun _ => rfl) (by first | rfl | (simp [setI]; done) | omega | (dsimp only; omega) | (simp [setI]; omega)) (by first | rfl | (simp [setI]; done) | omega | (dsimp only; omega) | (simp [setI]; omega)) ttok rfl rfl rfl rfl rfl rfl rfl rfl rfl rfl rfl rfl rfl rfl rfl rfl rfl ?_
      refine go_run' ttok 1 rfl ?_
      refine go_nil (fun _ => by kernel_rfl) ?_
      refine then_norm (awp_go hmix (go_run' ttok 5 rfl ?_))
      obtain ⟨e5, hv24, hz3⟩ := of_obind hz3
      refine go_indexT I l i e5 hv24 ttok rfl rfl rfl rfl rfl rfl rfl rfl rfl ?_
      refine go_run' ttok 1 rfl ?_
      obtain ⟨e6, hv25, hz3⟩ := of_obind hz3
      refine go_indexT I x.Prices e5 e6 hv25 ttok rfl rfl rfl rfl rfl rfl rfl rfl rfl ?_
      refine go_run' ttok 3 rfl ?_
      refine go_nil (fun _ => by kernel_rfl) ?_
      refine block_norm (then_norm (awp_go hmix (go_run' ttok 3 rfl (go_nil nd ?_))))
      have e26 := of_some hz3
      subst e26
      refine then_norm ⟨rfl, (l1, (W64 (n1 + e6)), (W64 (i + 1))), [(4, some 49), (2, some 2)], ⟨rfl, rfl, rfl, rfl, rfl, ⟨⟨rfl, rfl, (by first | rfl | (simp [setI]; done) | omega | (dsimp only; omega) | (simp [setI]; omega))⟩, wkP_id _ rfl, wkP_id _ rfl, trivial⟩, ⟨⟨_, rfl, rfl, rfl, wkX_map (enc := I) l1 (fun _ => rfl)⟩, trivial⟩⟩, hk4⟩
  ·replace hz3 := of_bif_f hz3 c5
   refine awp_exit (then_exit ?_)
   obtain ⟨t6, hn27, hq⟩ := of_mapr' hz3
   subst hq
   have hq : t6 = _ := hk4
   subst hq
   refine then_exit (block_here ?_)
   have e28 := of_some hn27
   refine then_norm ⟨rfl, (sizes1, n1), [(4, some 4)], ⟨rfl, rfl, rfl, rfl, rfl, ⟨⟨rfl, rfl, (by first | rfl | (simp [setI]; done) | omega | (dsimp only; omega) | (simp [setI]; omega))⟩, wkP_id _ rfl, trivial⟩, ⟨⟨_, rfl, rfl, rfl, wkX_map (enc := I) sizes1 (fun _ => rfl)⟩, trivial⟩⟩, e28⟩
 ·intro w hw2
  subst hw2
  replace h := of_inr h
  obtain ⟨sizes, n⟩ := w
  refine awp_seq (awp_go hmix (go_run' ttok 5 rfl (go_nil nd (then_norm ?_))))
  refine awp_freezeM [5, 6] [] [(4, some ⟨3, 1, sizes.map I⟩)] [] [(4, (encL I sizes))] [] rfl rfl rfl rfl rfl ⟨rfl, by decide, trivial⟩ ⟨(wkP_lend rfl (by first | rfl | (simp [setI]; done) | omega | (dsimp only; omega) | (simp [setI]; omega)) (fun _ => rfl)), trivial⟩ trivial ?_
  refine awp_ret ?_
  have e29 := of_some h
  subst e29
  refine ret_ret ?_
  refine fin0 ttok rfl rfl ?_
  exact wkP_refl _ rfl

end Go.Proofs.Ytcimnopodmnmmaa
