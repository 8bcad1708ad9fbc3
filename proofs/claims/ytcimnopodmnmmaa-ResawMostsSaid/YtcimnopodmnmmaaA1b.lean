/- A1b: what functions of the program compute (written by mod.py). -/
import Derived.Test.YtcimnopodmnmmaaA1a
import Derived.KernelRfl
namespace Go.Proofs.Ytcimnopodmnmmaa
open Go Go.Ab
set_option linter.unusedSimpArgs false
set_option linter.unusedVariables false
set_option linter.unusedSectionVars false
set_option maxRecDepth 20000
set_option maxHeartbeats 1000000

noncomputable def product_checkNumbers_s1 (p : TProduct) (vv : Int) : Option (Int ⊕ (Int ⊕ Unit)) :=
 (bif (decide (vv < ((p.Lengths.length : Nat) : Int))) then (Option.bind (getI p.Lengths vv) (fun e => (bif (decide (e < 100)) then some (Sum.inr (Sum.inl 9)) else (bif (decide (20000 < e)) then some (Sum.inr (Sum.inl 9)) else (bif (decide (0 < vv)) then (Option.bind (getI p.Lengths (W64 (vv - 1))) (fun e1 => (bif (decide (e ≤ e1)) then some (Sum.inr (Sum.inl 11)) else some (Sum.inl (W64 (vv + 1)))))) else some (Sum.inl (W64 (vv + 1)))))))) else some (Sum.inr (Sum.inr ())))
noncomputable def product_checkNumbers_s2 (p : TProduct) (vv1 : Int) : Option (Int ⊕ (Int ⊕ Unit)) :=
 (bif (decide (vv1 < ((p.Prices.length : Nat) : Int))) then (Option.bind (getI p.Prices vv1) (fun e2 => (bif (decide (e2 < 0)) then some (Sum.inr (Sum.inl 9)) else (bif (decide (1000000 < e2)) then some (Sum.inr (Sum.inl 9)) else some (Sum.inl (W64 (vv1 + 1))))))) else some (Sum.inr (Sum.inr ())))
/-- sawmill/product.checkNumbers -/
noncomputable def product_checkNumbers_g (p : TProduct) : Option Int :=
 (bif (decide (p.Thick < 5)) then some 9 else (bif (decide (300 < p.Thick)) then some 9 else (bif (decide (p.Width < p.Thick)) then some 9 else (bif (decide (600 < p.Width)) then some 9 else (bif (decide (p.Allow < 0)) then some 9 else (bif (decide (200 < p.Allow)) then some 9 else (bif (decide (p.Wane < 0)) then some 9 else (bif (decide (1000 < p.Wane)) then some 9 else (letB (product_Green_g p) (fun gv => (bif (decide (600 < gv.2)) then some 9 else (bif (((p.Lengths.length : Nat) : Int) == 0) then some 3 else (bif (decide (8 < ((p.Lengths.length : Nat) : Int))) then some 4 else (bif (((p.Prices.length : Nat) : Int) != ((p.Lengths.length : Nat) : Int)) then some 19 else (Option.bind ((loopO (fun q => product_checkNumbers_s1 p q) 0) : Option (Int ⊕ Unit)) (Sum.elim (fun q => some q) (fun _ => (Option.bind ((loopO (fun q => product_checkNumbers_s2 p q) 0) : Option (Int ⊕ Unit)) (Sum.elim (fun q => some q) (fun _ => some 0))))))))))))))))))))
theorem product_checkNumbers_w (p : TProduct) (r : Int) (h : product_checkNumbers_g p = some r) : Holds Try.prog 67 [(encTProduct p)] [] (I r) [] := by
 unfold product_checkNumbers_g at h
 refine holds_fn Try.func67 rfl Try.ntmps67 rfl rfl rfl (fun lim => ?_)
 refine awp_seq (awp_go hmix (go_run' ttok 2 rfl (go_nil nd (then_norm (awp_seq (awp_seq (awp_go hmix (go_run' ttok 4 rfl ?_))))))))
 refine go_gcase rfl rfl rfl (fun g1 => ?_) (fun g1 => ?_)
 ·rw [g1]
  replace h := of_bif_t h g1
  refine go_run' ttok 16 rfl (go_nil nd (then_norm ?_))
  refine awp_cond rfl (fun tt0 => ?_) (fun h => by cases h)
  clear tt0
  refine awp_seq (awp_go hmix (go_run' ttok 1 rfl (go_nil nd (then_norm (awp_ret (then_ret ?_))))))
  have e2 := of_some h
  subst e2
  refine ret_ret ?_
  refine fin0 ttok rfl rfl ?_
  exact (wkP_refl _ rfl)
 ·rw [g1]
  replace h := of_bif_f h g1
  refine go_run' ttok 5 rfl ?_
  refine go_gcase rfl rfl rfl (fun g3 => ?_) (fun g3 => ?_)
  ·rw [g3]
   replace h := of_bif_t h g3
   refine go_run' ttok 11 rfl (go_nil nd (then_norm ?_))
   refine awp_cond rfl (fun tt0 => ?_) (fun h => by cases h)
   clear tt0
   refine awp_seq (awp_go hmix (go_run' ttok 1 rfl (go_nil nd (then_norm (awp_ret (then_ret ?_))))))
   have e4 := of_some h
   subst e4
   refine ret_ret ?_
   refine fin0 ttok rfl rfl ?_
   exact (wkP_refl _ rfl)
  ·rw [g3]
   replace h := of_bif_f h g3
   refine go_run' ttok 7 rfl ?_
   refine go_gcase rfl rfl rfl (fun g5 => ?_) (fun g5 => ?_)
   ·rw [g5]
    replace h := of_bif_t h g5
    refine go_run' ttok 4 rfl (go_nil nd (then_norm ?_))
    refine awp_cond rfl (fun tt0 => ?_) (fun h => by cases h)
    clear tt0
    refine awp_seq (awp_go hmix (go_run' ttok 1 rfl (go_nil nd (then_norm (awp_ret (then_ret ?_))))))
    have e6 := of_some h
    subst e6
    refine ret_ret ?_
    refine fin0 ttok rfl rfl ?_
    exact (wkP_refl _ rfl)
   ·rw [g5]
    replace h := of_bif_f h g5
    refine go_run' ttok 4 rfl (go_nil nd (then_norm ?_))
    refine awp_cond (b := (decide (600 < p.Width))) rfl (fun c7 => ?_) (fun c7 => ?_)
    ·replace h := of_bif_t h c7
     refine awp_seq (awp_go hmix (go_run' ttok 1 rfl (go_nil nd (then_norm (awp_ret (then_ret ?_))))))
     have e8 := of_some h
     subst e8
     refine ret_ret ?_
     refine fin0 ttok rfl rfl ?_
     exact (wkP_refl _ rfl)
    ·replace h := of_bif_f h c7
     refine awp_skip (then_norm (awp_seq (awp_seq (awp_go hmix (go_run' ttok 4 rfl ?_)))))
     refine go_gcase rfl rfl rfl (fun g9 => ?_) (fun g9 => ?_)
     ·rw [g9]
      replace h := of_bif_t h g9
      refine go_run' ttok 14 rfl (go_nil nd (then_norm ?_))
      refine awp_cond rfl (fun tt0 => ?_) (fun h => by cases h)
      clear tt0
      refine awp_seq (awp_go hmix (go_run' ttok 1 rfl (go_nil nd (then_norm (awp_ret (then_ret ?_))))))
      have e10 := of_some h
      subst e10
      refine ret_ret ?_
      refine fin0 ttok rfl rfl ?_
      exact (wkP_refl _ rfl)
     ·rw [g9]
      replace h := of_bif_f h g9
      refine go_run' ttok 5 rfl ?_
      refine go_gcase rfl rfl rfl (fun g11 => ?_) (fun g11 => ?_)
      ·rw [g11]
       replace h := of_bif_t h g11
       refine go_run' ttok 9 rfl (go_nil nd (then_norm ?_))
       refine awp_cond rfl (fun tt0 => ?_) (fun h => by cases h)
       clear tt0
       refine awp_seq (awp_go hmix (go_run' ttok 1 rfl (go_nil nd (then_norm (awp_ret (then_ret ?_))))))
       have e12 := of_some h
       subst e12
       refine ret_ret ?_
       refine fin0 ttok rfl rfl ?_
       exact (wkP_refl _ rfl)
      ·rw [g11]
       replace h := of_bif_f h g11
       refine go_run' ttok 5 rfl ?_
       refine go_gcase rfl rfl rfl (fun g13 => ?_) (fun g13 => ?_)
       ·rw [g13]
        replace h := of_bif_t h g13
        refine go_run' ttok 4 rfl (go_nil nd (then_norm ?_))
        refine awp_cond rfl (fun tt0 => ?_) (fun h => by cases h)
        clear tt0
        refine awp_seq (awp_go hmix (go_run' ttok 1 rfl (go_nil nd (then_norm (awp_ret (then_ret ?_))))))
        have e14 := of_some h
        subst e14
        refine ret_ret ?_
        refine fin0 ttok rfl rfl ?_
        exact (wkP_refl _ rfl)
       ·rw [g13]
        replace h := of_bif_f h g13
        refine go_run' ttok 4 rfl (go_nil nd (then_norm ?_))
        refine awp_cond (b := (decide (1000 < p.Wane))) rfl (fun c15 => ?_) (fun c15 => ?_)
        ·replace h := of_bif_t h c15
         refine awp_seq (awp_go hmix (go_run' ttok 1 rfl (go_nil nd (then_norm (awp_ret (then_ret ?_))))))
         have e16 := of_some h
         subst e16
         refine ret_ret ?_
         refine fin0 ttok rfl rfl ?_
         exact (wkP_refl _ rfl)
        ·replace h := of_bif_f h c15
         refine awp_skip (then_norm (awp_seq (awp_seq (awp_go hmix (go_run' ttok 1 rfl ?_)))))
         obtain ⟨gv, hv17, h⟩ := of_let h
         refine go_call fn47 (product_Green_w p gv hv17) rfl rfl rfl rfl rfl rfl rfl ?_
         refine go_run' ttok 5 rfl (go_nil nd (then_norm (awp_seq (awp_go hmix (go_run' ttok 2 rfl (go_nil nd (then_norm ?_)))))))
         refine awp_cond (b := (decide (600 < gv.2))) rfl (fun c18 => ?_) (fun c18 => ?_)
         ·replace h := of_bif_t h c18
          refine awp_seq (awp_go hmix (go_run' ttok 1 rfl (go_nil nd (then_norm (awp_ret (then_ret ?_))))))
          have e19 := of_some h
          subst e19
          refine ret_ret ?_
          refine fin0 ttok rfl rfl ?_
          exact (wkP_refl _ rfl)
         ·replace h := of_bif_f h c18
          refine awp_skip (then_norm (awp_seq (awp_seq (awp_go hmix (go_run' ttok 2 rfl ?_)))))
          refine go_lenT I p.Lengths ttok rfl rfl rfl rfl rfl rfl ?_
          refine go_run' ttok 1 rfl (go_nil nd (then_norm ?_))
          refine awp_cond (b := (((p.Lengths.length : Nat) : Int) == 0)) rfl (fun c20 => ?_) (fun c20 => ?_)
          ·replace h := of_bif_t h c20
           refine awp_seq (awp_go hmix (go_run' ttok 1 rfl (go_nil nd (then_norm (awp_ret (then_ret ?_))))))
           have e21 := of_some h
           subst e21
           refine ret_ret ?_
           refine fin0 ttok rfl rfl ?_
           exact (wkP_refl _ rfl)
          ·replace h := of_bif_f h c20
           refine awp_skip (then_norm (awp_seq (awp_seq (awp_go hmix (go_run' ttok 2 rfl ?_)))))
           refine go_lenT I p.Lengths ttok rfl rfl rfl rfl rfl rfl ?_
           refine go_run' ttok 1 rfl (go_nil nd (then_norm ?_))
           refine awp_cond (b := (decide (8 < ((p.Lengths.length : Nat) : Int)))) rfl (fun c22 => ?_) (fun c22 => ?_)
           ·replace h := of_bif_t h c22
            refine awp_seq (awp_go hmix (go_run' ttok 1 rfl (go_nil nd (then_norm (awp_ret (then_ret ?_))))))
            have e23 := of_some h
            subst e23
            refine ret_ret ?_
            refine fin0 ttok rfl rfl ?_
            exact (wkP_refl _ rfl)
           ·replace h := of_bif_f h c22
            refine awp_skip (then_norm (awp_seq (awp_seq (awp_go hmix (go_run' ttok 2 rfl ?_)))))
            refine go_lenT I p.Prices ttok rfl rfl rfl rfl rfl rfl ?_
            refine go_run' ttok 2 rfl ?_
            refine go_lenT I p.Lengths ttok rfl rfl rfl rfl rfl rfl ?_
            refine go_run' ttok 1 rfl (go_nil nd (then_norm ?_))
            refine awp_cond (b := (((p.Prices.length : Nat) : Int) != ((p.Lengths.length : Nat) : Int))) rfl (fun c24 => ?_) (fun c24 => ?_)
            ·replace h := of_bif_t h c24
             refine awp_seq (awp_go hmix (go_run' ttok 1 rfl (go_nil nd (then_norm (awp_ret (then_ret ?_))))))
             have e25 := of_some h
             subst e25
             refine ret_ret ?_
             refine fin0 ttok rfl rfl ?_
             exact (wkP_refl _ rfl)
            ·replace h := of_bif_f h c24
             refine awp_skip (then_norm ?_)
             obtain ⟨y, hx26, h⟩ := of_obind h
             refine awp_seqJ (X := Unit) [1] [1] (fun _ => []) (fun _ => []) (fun w => Sum.inr w = y) rfl rfl ?_ ?_
             ·skip
              refine awp_seq (awp_go hmix (go_run' ttok 2 rfl ?_))
              refine go_lenT I p.Lengths ttok rfl rfl rfl rfl rfl rfl ?_
              refine go_run' ttok 1 rfl (go_nil nd (then_norm (awp_block ?_)))
              refine awp_loopD (X := Int) (Y := (Int ⊕ Unit)) [1, 70, 71] [1] (fun q => [(72, (I q))]) (fun q => []) (fun q => product_checkNumbers_s1 p q) 0 [(1, some 1)] hx26 ⟨rfl, rfl, rfl, rfl, rfl, ⟨wkP_id _ rfl, trivial⟩, trivial⟩ (fun vv vR vz hz28 hk29 => ?_)
              change product_checkNumbers_s1 p vv = _ at hz28
              unfold product_checkNumbers_s1 at hz28
              refine awp_seq (awp_go hmix (go_run' ttok 1 rfl (go_nil nd (then_norm (awp_seq ?_)))))
              refine awp_cond (b := (decide (vv < ((p.Lengths.length : Nat) : Int)))) rfl (fun c30 => ?_) (fun c30 => ?_)
              ·replace hz28 := of_bif_t hz28 c30
               refine awp_skip (then_norm (awp_seq (awp_block (awp_seq (awp_go hmix (go_run' ttok 1 rfl ?_))))))
               obtain ⟨e, hv31, hz28⟩ := of_obind hz28
               refine go_indexT I p.Lengths vv e hv31 ttok rfl rfl rfl rfl rfl rfl rfl rfl rfl ?_
               refine go_run' ttok 3 rfl (go_nil nd (then_norm (awp_seq (awp_seq (awp_go hmix (go_run' ttok 3 rfl ?_))))))
               refine go_gcase rfl rfl rfl (fun g32 => ?_) (fun g32 => ?_)
               ·rw [g32]
                replace hz28 := of_bif_t hz28 g32
                refine go_run' ttok 3 rfl (go_nil nd (then_norm ?_))
                refine awp_cond rfl (fun tt0 => ?_) (fun h => by cases h)
                clear tt0
                refine awp_seq (awp_go hmix (go_run' ttok 1 rfl (go_nil nd (then_norm (awp_ret (then_ret (block_ret (then_ret ?_))))))))
                obtain ⟨t, hn33, hq⟩ := of_mapr' hz28
                subst hq
                have hq : t = _ := hk29
                subst hq
                refine then_ret (block_ret ?_)
                obtain ⟨t1, hn34, hq⟩ := of_mapl' hn33
                subst hq
                have hq := of_inl h
                replace hq := of_some hq
                subst hq
                refine then_ret ?_
                have e35 := of_some hn34
                subst e35
                refine ret_ret ?_
                refine fin0 ttok rfl rfl ?_
                exact (wkP_refl _ rfl)
               ·rw [g32]
                replace hz28 := of_bif_f hz28 g32
                refine go_run' ttok 3 rfl (go_nil nd (then_norm ?_))
                refine awp_cond (b := (decide (20000 < e))) rfl (fun c36 => ?_) (fun c36 => ?_)
                ·replace hz28 := of_bif_t hz28 c36
                 refine awp_seq (awp_go hmix (go_run' ttok 1 rfl (go_nil nd (then_norm (awp_ret (then_ret (block_ret (then_ret ?_))))))))
                 obtain ⟨t2, hn37, hq⟩ := of_mapr' hz28
                 subst hq
                 have hq : t2 = _ := hk29
                 subst hq
                 refine then_ret (block_ret ?_)
                 obtain ⟨t3, hn38, hq⟩ := of_mapl' hn37
                 subst hq
                 have hq := of_inl h
                 replace hq := of_some hq
                 subst hq
                 refine then_ret ?_
                 have e39 := of_some hn38
                 subst e39
                 refine ret_ret ?_
                 refine fin0 ttok rfl rfl ?_
                 exact (wkP_refl _ rfl)
                ·replace hz28 := of_bif_f hz28 c36
                 refine awp_skip (then_norm (awp_seq (awp_go hmix (go_run' ttok 3 rfl ?_))))
                 refine go_gcase rfl rfl rfl (fun g40 => ?_) (fun g40 => ?_)
                 ·rw [g40]
                  replace hz28 := of_bif_t hz28 g40
                  refine go_run' ttok 5 rfl ?_
                  obtain ⟨e1, hv41, hz28⟩ := of_obind hz28
                  refine go_indexT I p.Lengths (W64 (vv - 1)) e1 hv41 ttok rfl rfl rfl rfl rfl rfl rfl rfl rfl ?_
                  refine go_run' ttok 3 rfl (go_nil nd (then_norm ?_))
                  refine awp_cond (b := (decide (e ≤ e1))) rfl (fun c42 => ?_) (fun c42 => ?_)
                  ·replace hz28 := of_bif_t hz28 c42
                   refine awp_seq (awp_go hmix (go_run' ttok 1 rfl (go_nil nd (then_norm (awp_ret (block_ret (then_ret ?_)))))))
                   obtain ⟨t4, hn43, hq⟩ := of_mapr' hz28
                   subst hq
                   have hq : t4 = _ := hk29
                   subst hq
                   refine then_ret (block_ret ?_)
                   obtain ⟨t5, hn44, hq⟩ := of_mapl' hn43
                   subst hq
                   have hq := of_inl h
                   replace hq := of_some hq
                   subst hq
                   refine then_ret ?_
                   have e45 := of_some hn44
                   subst e45
                   refine ret_ret ?_
                   refine fin0 ttok rfl rfl ?_
                   exact (wkP_refl _ rfl)
                  ·replace hz28 := of_bif_f hz28 c42
                   refine awp_skip (block_norm (then_norm (awp_go hmix (go_run' ttok 2 rfl (go_nil nd ?_)))))
                   have e46 := of_some hz28
                   subst e46
                   refine then_norm ⟨rfl, (W64 (vv + 1)), [(1, some 1)], ⟨rfl, rfl, rfl, rfl, rfl, ⟨wkP_id _ rfl, trivial⟩, trivial⟩, hk29⟩
                 ·rw [g40]
                  replace hz28 := of_bif_f hz28 g40
                  refine go_run' ttok 9 rfl (go_nil nd (then_norm ?_))
                  refine awp_cond rfl (fun h => by cases h) (fun tt0 => ?_)
                  clear tt0
                  refine awp_skip (block_norm (then_norm (awp_go hmix (go_run' ttok 2 rfl (go_nil nd ?_)))))
                  have e47 := of_some hz28
                  subst e47
                  refine then_norm ⟨rfl, (W64 (vv + 1)), [(1, some 1)], ⟨rfl, rfl, rfl, rfl, rfl, ⟨wkP_id _ rfl, trivial⟩, trivial⟩, hk29⟩
              ·replace hz28 := of_bif_f hz28 c30
               refine awp_exit (then_exit ?_)
               obtain ⟨t6, hn48, hq⟩ := of_mapr' hz28
               subst hq
               have hq : t6 = _ := hk29
               subst hq
               refine then_exit (block_here ?_)
               have e49 := of_some hn48
               refine then_norm ⟨rfl, (), [(1, some 1)], ⟨rfl, rfl, rfl, rfl, rfl, trivial, trivial⟩, e49⟩
             ·intro w hw27
              subst hw27
              replace h := of_inr h
              obtain ⟨y1, hx50, h⟩ := of_obind h
              refine awp_seqJ (X := Unit) [] [] (fun _ => []) (fun _ => []) (fun w1 => Sum.inr w1 = y1) rfl rfl ?_ ?_
              ·skip
               refine awp_seq (awp_go hmix (go_run' ttok 2 rfl ?_))
               refine go_lenT I p.Prices ttok rfl rfl rfl rfl rfl rfl ?_
               refine go_run' ttok 1 rfl (go_nil nd (then_norm (awp_block ?_)))
               refine awp_loopD (X := Int) (Y := (Int ⊕ Unit)) [97, 98] [] (fun q => [(99, (I q))]) (fun q => []) (fun q => product_checkNumbers_s2 p q) 0 [] hx50 ⟨rfl, rfl, rfl, rfl, rfl, ⟨wkP_id _ rfl, trivial⟩, trivial⟩ (fun vv1 vR1 vz1 hz52 hk53 => ?_)
               change product_checkNumbers_s2 p vv1 = _ at hz52
               unfold product_checkNumbers_s2 at hz52
               refine awp_seq (awp_go hmix (go_run' ttok 1 rfl (go_nil nd (then_norm (awp_seq ?_)))))
               refine awp_cond (b := (decide (vv1 < ((p.Prices.length : Nat) : Int)))) rfl (fun c54 => ?_) (fun c54 => ?_)
               ·replace hz52 := of_bif_t hz52 c54
                refine awp_skip (then_norm (awp_seq (awp_block (awp_seq (awp_go hmix ?_)))))
                obtain ⟨e2, hv55, hz52⟩ := of_obind hz52
                refine go_indexT I p.Prices vv1 e2 hv55 ttok rfl rfl rfl rfl rfl rfl rfl rfl rfl ?_
                refine go_run' ttok 2 rfl (go_nil nd (then_norm (awp_seq (awp_go hmix (go_run' ttok 3 rfl ?_)))))
                refine go_gcase rfl rfl rfl (fun g56 => ?_) (fun g56 => ?_)
                ·rw [g56]
                 replace hz52 := of_bif_t hz52 g56
                 refine go_run' ttok 3 rfl (go_nil nd (then_norm ?_))
                 refine awp_cond rfl (fun tt0 => ?_) (fun h => by cases h)
                 clear tt0
                 refine awp_seq (awp_go hmix (go_run' ttok 1 rfl (go_nil nd (then_norm (awp_ret (block_ret (then_ret ?_)))))))
                 obtain ⟨t7, hn57, hq⟩ := of_mapr' hz52
                 subst hq
                 have hq : t7 = _ := hk53
                 subst hq
                 refine then_ret (block_ret ?_)
                 obtain ⟨t8, hn58, hq⟩ := of_mapl' hn57
                 subst hq
                 have hq := of_inl h
                 replace hq := of_some hq
                 subst hq
                 refine then_ret ?_
                 have e59 := of_some hn58
                 subst e59
                 refine ret_ret ?_
                 refine fin0 ttok rfl rfl ?_
                 exact (wkP_refl _ rfl)
                ·rw [g56]
                 replace hz52 := of_bif_f hz52 g56
                 refine go_run' ttok 3 rfl (go_nil nd (then_norm ?_))
                 refine awp_cond (b := (decide (1000000 < e2))) rfl (fun c60 => ?_) (fun c60 => ?_)
                 ·replace hz52 := of_bif_t hz52 c60
                  refine awp_seq (awp_go hmix (go_run' ttok 1 rfl (go_nil nd (then_norm (awp_ret (block_ret (then_ret ?_)))))))
                  obtain ⟨t9, hn61, hq⟩ := of_mapr' hz52
                  subst hq
                  have hq : t9 = _ := hk53
                  subst hq
                  refine then_ret (block_ret ?_)
                  obtain ⟨t10, hn62, hq⟩ := of_mapl' hn61
                  subst hq
                  have hq := of_inl h
                  replace hq := of_some hq
                  subst hq
                  refine then_ret ?_
                  have e63 := of_some hn62
                  subst e63
                  refine ret_ret ?_
                  refine fin0 ttok rfl rfl ?_
                  exact (wkP_refl _ rfl)
                 ·replace hz52 := of_bif_f hz52 c60
                  refine awp_skip (block_norm (then_norm (awp_go hmix (go_run' ttok 2 rfl (go_nil nd ?_)))))
                  have e64 := of_some hz52
                  subst e64
                  refine then_norm ⟨rfl, (W64 (vv1 + 1)), [], ⟨rfl, rfl, rfl, rfl, rfl, ⟨wkP_id _ rfl, trivial⟩, trivial⟩, hk53⟩
               ·replace hz52 := of_bif_f hz52 c54
                refine awp_exit (then_exit ?_)
                obtain ⟨t11, hn65, hq⟩ := of_mapr' hz52
                subst hq
                have hq : t11 = _ := hk53
                subst hq
                refine then_exit (block_here ?_)
                have e66 := of_some hn65
                refine then_norm ⟨rfl, (), [], ⟨rfl, rfl, rfl, rfl, rfl, trivial, trivial⟩, e66⟩
              ·intro w1 hw51
               subst hw51
               replace h := of_inr h
               refine awp_seq (awp_go hmix (go_run' ttok 1 rfl (go_nil nd (then_norm (awp_ret ?_)))))
               have e67 := of_some h
               subst e67
               refine ret_ret ?_
               refine fin0 ttok rfl rfl ?_
               exact (wkP_refl _ rfl)
noncomputable def product_checkNumbers_cs1 (N : Nat) (p : TProduct) (vv : Int) : Option (Int ⊕ (Int ⊕ Unit)) :=
 (bif (decide (vv < ((p.Lengths.length : Nat) : Int))) then (Option.bind (getI p.Lengths vv) (fun e => (bif (decide (e < 100)) then some (Sum.inr (Sum.inl 9)) else (bif (decide (20000 < e)) then some (Sum.inr (Sum.inl 9)) else (bif (decide (0 < vv)) then (Option.bind (getI p.Lengths (W64 (vv - 1))) (fun e1 => (bif (decide (e ≤ e1)) then some (Sum.inr (Sum.inl 11)) else some (Sum.inl (W64 (vv + 1)))))) else some (Sum.inl (W64 (vv + 1)))))))) else some (Sum.inr (Sum.inr ())))
theorem product_checkNumbers_cs1_le (N : Nat) (p : TProduct) (vv : Int) : OLe (product_checkNumbers_cs1 N p vv) (product_checkNumbers_s1 p vv) := by
 unfold product_checkNumbers_cs1 product_checkNumbers_s1
 repeat' (first | exact ole_rfl | refine ole_bif ?_ ?_ | refine ole_bind ?_ (fun _ => ?_) | refine ole_let (fun _ => ?_) | refine ole_map ?_ | refine ole_elim (fun _ => ?_) (fun _ => ?_) | refine ole_loop (fun _ => ?_))
noncomputable def product_checkNumbers_cs2 (N : Nat) (p : TProduct) (vv1 : Int) : Option (Int ⊕ (Int ⊕ Unit)) :=
 (bif (decide (vv1 < ((p.Prices.length : Nat) : Int))) then (Option.bind (getI p.Prices vv1) (fun e2 => (bif (decide (e2 < 0)) then some (Sum.inr (Sum.inl 9)) else (bif (decide (1000000 < e2)) then some (Sum.inr (Sum.inl 9)) else some (Sum.inl (W64 (vv1 + 1))))))) else some (Sum.inr (Sum.inr ())))
theorem product_checkNumbers_cs2_le (N : Nat) (p : TProduct) (vv1 : Int) : OLe (product_checkNumbers_cs2 N p vv1) (product_checkNumbers_s2 p vv1) := by
 unfold product_checkNumbers_cs2 product_checkNumbers_s2
 repeat' (first | exact ole_rfl | exact product_checkNumbers_cs1_le _ _ _ | refine ole_bif ?_ ?_ | refine ole_bind ?_ (fun _ => ?_) | refine ole_let (fun _ => ?_) | refine ole_map ?_ | refine ole_elim (fun _ => ?_) (fun _ => ?_) | refine ole_loop (fun _ => ?_))
noncomputable def product_checkNumbers_c (N : Nat) (p : TProduct) : Option Int :=
 (bif (decide (p.Thick < 5)) then some 9 else (bif (decide (300 < p.Thick)) then some 9 else (bif (decide (p.Width < p.Thick)) then some 9 else (bif (decide (600 < p.Width)) then some 9 else (bif (decide (p.Allow < 0)) then some 9 else (bif (decide (200 < p.Allow)) then some 9 else (bif (decide (p.Wane < 0)) then some 9 else (bif (decide (1000 < p.Wane)) then some 9 else (letB (product_Green_g p) (fun gv => (bif (decide (600 < gv.2)) then some 9 else (bif (((p.Lengths.length : Nat) : Int) == 0) then some 3 else (bif (decide (8 < ((p.Lengths.length : Nat) : Int))) then some 4 else (bif (((p.Prices.length : Nat) : Int) != ((p.Lengths.length : Nat) : Int)) then some 19 else (Option.bind ((iterX N (fun q => product_checkNumbers_cs1 N p q) 0) : Option (Int ⊕ Unit)) (Sum.elim (fun q => some q) (fun _ => (Option.bind ((iterX N (fun q => product_checkNumbers_cs2 N p q) 0) : Option (Int ⊕ Unit)) (Sum.elim (fun q => some q) (fun _ => some 0))))))))))))))))))))
theorem product_checkNumbers_le (N : Nat) (p : TProduct) : OLe (product_checkNumbers_c N p) (product_checkNumbers_g p) := by
 unfold product_checkNumbers_c product_checkNumbers_g
 repeat' (first | exact ole_rfl | exact product_checkNumbers_cs1_le _ _ _ | exact product_checkNumbers_cs2_le _ _ _ | refine ole_bif ?_ ?_ | refine ole_bind ?_ (fun _ => ?_) | refine ole_let (fun _ => ?_) | refine ole_map ?_ | refine ole_elim (fun _ => ?_) (fun _ => ?_) | refine ole_loop (fun _ => ?_))

noncomputable def product_Check_s1 (l : (List TProduct)) (vv : Int) : Option (Int ⊕ (Int ⊕ Unit)) :=
 (bif (decide (vv < ((l.length : Nat) : Int))) then (Option.bind (getI l vv) (fun e => (Option.bind (ident_IsName_g e.Name) (fun iv => (bif (!iv) then some (Sum.inr (Sum.inl 6)) else (Option.bind (subO l 0 vv) (fun l1 => (Option.bind (product_Find_g l1 e.Name) (fun fv => (bif fv.2 then some (Sum.inr (Sum.inl 7)) else (Option.bind (product_checkNumbers_g e) (fun cv => (bif (cv != 0) then some (Sum.inr (Sum.inl cv)) else some (Sum.inl (W64 (vv + 1)))))))))))))))) else some (Sum.inr (Sum.inr ())))
/-- sawmill/product.Check -/
noncomputable def product_Check_g (l : (List TProduct)) : Option Int :=
 (bif (decide (16 < ((l.length : Nat) : Int))) then some 4 else (Option.bind ((loopO (fun q => product_Check_s1 l q) 0) : Option (Int ⊕ Unit)) (Sum.elim (fun q => some q) (fun _ => some 0))))
theorem product_Check_w (l : (List TProduct)) (r : Int) (h : product_Check_g l = some r) : Holds Try.prog 45 [((encL encTProduct) l)] [] (I r) [] := by
 unfold product_Check_g at h
 refine holds_fn Try.func45 rfl Try.ntmps45 rfl rfl rfl (fun lim => ?_)
 refine awp_seq (awp_go hmix (go_run' ttok 1 rfl (go_nil nd (then_norm (awp_seq (awp_seq (awp_go hmix (go_run' ttok 1 rfl ?_))))))))
 refine go_lenT encTProduct l ttok rfl rfl rfl rfl rfl rfl ?_
 refine go_run' ttok 1 rfl (go_nil nd (then_norm ?_))
 refine awp_cond (b := (decide (16 < ((l.length : Nat) : Int)))) rfl (fun c1 => ?_) (fun c1 => ?_)
 ·replace h := of_bif_t h c1
  refine awp_seq (awp_go hmix (go_run' ttok 1 rfl (go_nil nd (then_norm (awp_ret (then_ret ?_))))))
  have e2 := of_some h
  subst e2
  refine ret_ret ?_
  refine fin0 ttok rfl rfl ?_
  exact (wkP_refl _ rfl)
 ·replace h := of_bif_f h c1
  refine awp_skip (then_norm ?_)
  obtain ⟨y, hx3, h⟩ := of_obind h
  refine awp_seqJ (X := Unit) [] [] (fun _ => []) (fun _ => []) (fun w => Sum.inr w = y) rfl rfl ?_ ?_
  ·skip
   refine awp_seq (awp_go hmix (go_run' ttok 1 rfl ?_))
   refine go_lenT encTProduct l ttok rfl rfl rfl rfl rfl rfl ?_
   refine go_run' ttok 1 rfl (go_nil nd (then_norm (awp_block ?_)))
   refine awp_loopD (X := Int) (Y := (Int ⊕ Unit)) [0, 11, 12] [] (fun q => [(13, (I q))]) (fun q => []) (fun q => product_Check_s1 l q) 0 [] hx3 ⟨rfl, rfl, rfl, rfl, rfl, ⟨wkP_id _ rfl, trivial⟩, trivial⟩ (fun vv vR vz hz5 hk6 => ?_)
   change product_Check_s1 l vv = _ at hz5
   unfold product_Check_s1 at hz5
   refine awp_seq (awp_go hmix (go_run' ttok 1 rfl (go_nil nd (then_norm (awp_seq ?_)))))
   refine awp_cond (b := (decide (vv < ((l.length : Nat) : Int)))) rfl (fun c7 => ?_) (fun c7 => ?_)
   ·replace hz5 := of_bif_t hz5 c7
    refine awp_skip (then_norm (awp_seq (awp_block (awp_seq (awp_go hmix (go_run' ttok 1 rfl ?_))))))
    obtain ⟨e, hv8, hz5⟩ := of_obind hz5
    refine go_indexT encTProduct l vv e hv8 ttok rfl rfl rfl rfl rfl rfl rfl rfl rfl ?_
    refine go_run' ttok 4 rfl (go_nil nd (then_norm (awp_seq (awp_seq (awp_go hmix (go_run' ttok 2 rfl ?_))))))
    obtain ⟨iv, hv9, hz5⟩ := of_obind hz5
    refine go_call fn65 (ident_IsName_w e.Name iv hv9) rfl rfl rfl rfl rfl rfl rfl ?_
    refine go_run' ttok 1 rfl (go_nil nd (then_norm ?_))
    refine awp_cond (b := (!iv)) rfl (fun c10 => ?_) (fun c10 => ?_)
    ·replace hz5 := of_bif_t hz5 c10
     refine awp_seq (awp_go hmix (go_run' ttok 1 rfl (go_nil nd (then_norm (awp_ret (then_ret (block_ret (then_ret ?_))))))))
     obtain ⟨t, hn11, hq⟩ := of_mapr' hz5
     subst hq
     have hq : t = _ := hk6
     subst hq
     refine then_ret (block_ret ?_)
     obtain ⟨t1, hn12, hq⟩ := of_mapl' hn11
     subst hq
     have hq := of_inl h
     replace hq := of_some hq
     subst hq
     refine then_ret ?_
     have e13 := of_some hn12
     subst e13
     refine ret_ret ?_
     refine fin0 ttok rfl rfl ?_
     exact (wkP_refl _ rfl)
    ·replace hz5 := of_bif_f hz5 c10
     refine awp_skip (then_norm (awp_seq (awp_seq (awp_go hmix (go_run' ttok 2 rfl ?_)))))
     obtain ⟨l1, hv14, hz5⟩ := of_obind hz5
     refine go_sliceT encTProduct l l1 0 vv hv14 (fun _ => rfl) ttok rfl rfl rfl rfl rfl rfl rfl ⟨_, rfl⟩ rfl ?_
     refine go_run' ttok 2 rfl ?_
     obtain ⟨fv, hv15, hz5⟩ := of_obind hz5
     refine go_call fn66 (product_Find_w l1 e.Name fv hv15) rfl rfl rfl rfl rfl rfl rfl ?_
     refine go_run' ttok 5 rfl ?_
     refine go_nil (fun _ => by kernel_rfl) ?_
     refine then_norm (awp_seq (awp_go hmix (go_run' ttok 1 rfl (go_nil nd (then_norm ?_)))))
     refine awp_cond (b := fv.2) rfl (fun c16 => ?_) (fun c16 => ?_)
     ·replace hz5 := of_bif_t hz5 c16
      refine awp_seq (awp_go hmix (go_run' ttok 1 rfl (go_nil nd (then_norm (awp_ret (then_ret (block_ret (then_ret ?_))))))))
      obtain ⟨t2, hn17, hq⟩ := of_mapr' hz5
      subst hq
      have hq : t2 = _ := hk6
      subst hq
      refine then_ret (block_ret ?_)
      obtain ⟨t3, hn18, hq⟩ := of_mapl' hn17
      subst hq
      have hq := of_inl h
      replace hq := of_some hq
      subst hq
      refine then_ret ?_
      have e19 := of_some hn18
      subst e19
      refine ret_ret ?_
      refine fin0 ttok rfl rfl ?_
      exact (wkP_refl _ rfl)
     ·replace hz5 := of_bif_f hz5 c16
      refine awp_skip (then_norm (awp_seq (awp_go hmix (go_run' ttok 1 rfl ?_))))
      obtain ⟨cv, hv20, hz5⟩ := of_obind hz5
      refine go_call fn67 (product_checkNumbers_w e cv hv20) rfl rfl rfl rfl rfl rfl rfl ?_
      refine go_run' ttok 1 rfl (go_nil nd (then_norm (awp_seq (awp_go hmix (go_run' ttok 2 rfl (go_nil nd (then_norm ?_)))))))
      refine awp_cond (b := (cv != 0)) rfl (fun c21 => ?_) (fun c21 => ?_)
      ·replace hz5 := of_bif_t hz5 c21
       refine awp_seq (awp_go hmix (go_run' ttok 2 rfl (go_nil nd (then_norm (awp_ret (block_ret (then_ret ?_)))))))
       obtain ⟨t4, hn22, hq⟩ := of_mapr' hz5
       subst hq
       have hq : t4 = _ := hk6
       subst hq
       refine then_ret (block_ret ?_)
       obtain ⟨t5, hn23, hq⟩ := of_mapl' hn22
       subst hq
       have hq := of_inl h
       replace hq := of_some hq
       subst hq
       refine then_ret ?_
       have e24 := of_some hn23
       subst e24
       refine ret_ret ?_
       refine fin0 ttok rfl rfl ?_
       exact (wkP_refl _ rfl)
      ·replace hz5 := of_bif_f hz5 c21
       refine awp_skip (block_norm (then_norm (awp_go hmix (go_run' ttok 2 rfl (go_nil nd ?_)))))
       have e25 := of_some hz5
       subst e25
       refine then_norm ⟨rfl, (W64 (vv + 1)), [], ⟨rfl, rfl, rfl, rfl, rfl, ⟨wkP_id _ rfl, trivial⟩, trivial⟩, hk6⟩
   ·replace hz5 := of_bif_f hz5 c7
    refine awp_exit (then_exit ?_)
    obtain ⟨t6, hn26, hq⟩ := of_mapr' hz5
    subst hq
    have hq : t6 = _ := hk6
    subst hq
    refine then_exit (block_here ?_)
    have e27 := of_some hn26
    refine then_norm ⟨rfl, (), [], ⟨rfl, rfl, rfl, rfl, rfl, trivial, trivial⟩, e27⟩
  ·intro w hw4
   subst hw4
   replace h := of_inr h
   refine awp_seq (awp_go hmix (go_run' ttok 1 rfl (go_nil nd (then_norm (awp_ret ?_)))))
   have e28 := of_some h
   subst e28
   refine ret_ret ?_
   refine fin0 ttok rfl rfl ?_
   exact (wkP_refl _ rfl)
noncomputable def product_Check_cs1 (N : Nat) (l : (List TProduct)) (vv : Int) : Option (Int ⊕ (Int ⊕ Unit)) :=
 (bif (decide (vv < ((l.length : Nat) : Int))) then (Option.bind (getI l vv) (fun e => (Option.bind ((ident_IsName_c N) e.Name) (fun iv => (bif (!iv) then some (Sum.inr (Sum.inl 6)) else (Option.bind (subO l 0 vv) (fun l1 => (Option.bind ((product_Find_c N) l1 e.Name) (fun fv => (bif fv.2 then some (Sum.inr (Sum.inl 7)) else (Option.bind ((product_checkNumbers_c N) e) (fun cv => (bif (cv != 0) then some (Sum.inr (Sum.inl cv)) else some (Sum.inl (W64 (vv + 1)))))))))))))))) else some (Sum.inr (Sum.inr ())))
theorem product_Check_cs1_le (N : Nat) (l : (List TProduct)) (vv : Int) : OLe (product_Check_cs1 N l vv) (product_Check_s1 l vv) := by
 unfold product_Check_cs1 product_Check_s1
 repeat' (first | exact ole_rfl | exact ident_IsName_le _ _ | exact product_Find_le _ _ _ | exact product_checkNumbers_le _ _ | refine ole_bif ?_ ?_ | refine ole_bind ?_ (fun _ => ?_) | refine ole_let (fun _ => ?_) | refine ole_map ?_ | refine ole_elim (fun _ => ?_) (fun _ => ?_) | refine ole_loop (fun _ => ?_))
noncomputable def product_Check_c (N : Nat) (l : (List TProduct)) : Option Int :=
 (bif (decide (16 < ((l.length : Nat) : Int))) then some 4 else (Option.bind ((iterX N (fun q => product_Check_cs1 N l q) 0) : Option (Int ⊕ Unit)) (Sum.elim (fun q => some q) (fun _ => some 0))))
theorem product_Check_le (N : Nat) (l : (List TProduct)) : OLe (product_Check_c N l) (product_Check_g l) := by
 unfold product_Check_c product_Check_g
 repeat' (first | exact ole_rfl | exact ident_IsName_le _ _ | exact product_Find_le _ _ _ | exact product_checkNumbers_le _ _ | exact product_Check_cs1_le _ _ _ | refine ole_bif ?_ ?_ | refine ole_bind ?_ (fun _ => ?_) | refine ole_let (fun _ => ?_) | refine ole_map ?_ | refine ole_elim (fun _ => ?_) (fun _ => ?_) | refine ole_loop (fun _ => ?_))

/-- sawmill/defect.isEmpty -/
noncomputable def defect_isEmpty_g (s : Sp) : Bool :=
 (decide (s.b ≤ s.a))
theorem defect_isEmpty_w (s : Sp) (r : Bool) (h : defect_isEmpty_g s = r) : Holds Try.prog 91 [(encSp s)] [] (B r) [] := by
 unfold defect_isEmpty_g at h
 refine holds_fn Try.func91 rfl Try.ntmps91 rfl rfl rfl (fun lim => ?_)
 refine awp_seq (awp_go hmix (go_run' ttok 2 rfl (go_nil nd (then_norm (awp_seq (awp_go hmix (go_run' ttok 6 rfl (go_nil nd (then_norm (awp_ret ?_))))))))))
 have e1 := h
 subst e1
 refine ret_ret ?_
 refine fin0 ttok rfl rfl ?_
 exact (wkP_refl _ rfl)

/-- sawmill/defect.inside -/
noncomputable def defect_inside_g (s : Sp) (low : Int) (high : Int) : Bool :=
 (bif (decide (low ≤ (min s.a s.b))) then (decide ((max s.a s.b) ≤ high)) else false)
theorem defect_inside_w (s : Sp) (low : Int) (high : Int) (r : Bool) (h : defect_inside_g s low high = r) : Holds Try.prog 72 [(encSp s), (I low), (I high)] [] (B r) [] := by
 unfold defect_inside_g at h
 refine holds_fn Try.func72 rfl Try.ntmps72 rfl rfl rfl (fun lim => ?_)
 refine awp_seq (awp_go hmix (go_run' ttok 2 rfl (go_nil nd (then_norm (awp_seq (awp_go hmix (go_run' ttok 8 rfl ?_)))))))
 refine go_gcase rfl rfl rfl (fun g1 => ?_) (fun g1 => ?_)
 ·rw [g1]
  replace h := of_bif_t h g1
  refine go_run' ttok 9 rfl (go_nil nd (then_norm (awp_ret ?_)))
  have e2 := h
  subst e2
  refine ret_ret ?_
  refine fin0 ttok rfl rfl ?_
  exact (wkP_refl _ rfl)
 ·rw [g1]
  replace h := of_bif_f h g1
  refine go_run' ttok 9 rfl (go_nil nd (then_norm (awp_ret ?_)))
  have e3 := h
  subst e3
  refine ret_ret ?_
  refine fin0 ttok rfl rfl ?_
  exact (wkP_refl _ rfl)

/-- sawmill/defect.check -/
noncomputable def defect_check_g (d : Df) : Int :=
 (letB ((bif (decide (d.k < 1)) then true else (decide (6 < d.k))) : Bool) (fun vv => (bif vv then 10 else (letB ((bif (defect_isEmpty_g d.b.x) then true else (bif (defect_isEmpty_g d.b.y) then true else (defect_isEmpty_g d.b.z))) : Bool) (fun vv1 => (bif vv1 then 19 else (bif (!(defect_inside_g d.b.x (-600) 600)) then 9 else (bif (!(defect_inside_g d.b.y (-600) 600)) then 9 else (bif (!(defect_inside_g d.b.z 0 20000)) then 9 else 0)))))))))
theorem defect_check_w (d : Df) (r : Int) (h : defect_check_g d = r) : Holds Try.prog 88 [(encDf d)] [] (I r) [] := by
 unfold defect_check_g at h
 refine holds_fn Try.func88 rfl Try.ntmps88 rfl rfl rfl (fun lim => ?_)
 refine awp_seq (awp_go hmix (go_run' ttok 2 rfl (go_nil nd (then_norm (awp_seq (awp_go hmix (go_run' ttok 4 rfl (go_nil nd (then_norm (awp_seq (awp_block ?_)))))))))))
 obtain ⟨y, hx1, h⟩ := of_let h
 refine awp_seqJ (X := Bool) [3] [3] (fun w => [(6, (B w))]) (fun w => []) (fun w => w = y) rfl rfl ?_ ?_
 ·skip
  refine awp_go hmix (go_run' ttok 4 rfl ?_)
  refine go_gcase rfl rfl rfl (fun g3 => ?_) (fun g3 => ?_)
  ·rw [g3]
   replace hx1 := of_bif_t hx1 g3
   refine go_run' ttok 5 rfl (go_nil nd ?_)
   have e4 := hx1
   refine then_norm ⟨rfl, true, [(3, some 3)], ⟨rfl, rfl, rfl, rfl, rfl, ⟨wkP_id _ rfl, trivial⟩, trivial⟩, e4⟩
  ·rw [g3]
   replace hx1 := of_bif_f hx1 g3
   refine go_run' ttok 5 rfl (go_nil nd ?_)
   have e5 := hx1
   refine then_norm ⟨rfl, (decide (6 < d.k)), [(3, some 3)], ⟨rfl, rfl, rfl, rfl, rfl, ⟨wkP_id _ rfl, trivial⟩, trivial⟩, e5⟩
 ·intro vv hw2
  subst hw2
  refine awp_cond (b := vv) rfl (fun c6 => ?_) (fun c6 => ?_)
  ·replace h := of_bif_t h c6
   refine awp_seq (awp_go hmix (go_run' ttok 1 rfl (go_nil nd (then_norm (awp_ret (block_ret (then_ret ?_)))))))
   have e7 := h
   subst e7
   refine ret_ret ?_
   refine fin0 ttok rfl rfl ?_
   exact (wkP_refl _ rfl)
  ·replace h := of_bif_f h c6
   obtain ⟨y1, hx8, h⟩ := of_let h
   refine awp_seqJ (X := Bool) [3] [3] (fun w1 => [(15, (B w1))]) (fun w1 => []) (fun w1 => w1 = y1) rfl rfl ?_ ?_
   ·skip
    refine awp_go hmix (go_run' ttok 2 rfl ?_)
    refine go_call fn91 (defect_isEmpty_w d.b.x _ rfl) rfl rfl rfl rfl rfl rfl rfl ?_
    refine go_run' ttok 1 rfl ?_
    refine go_gcase rfl rfl rfl (fun g10 => ?_) (fun g10 => ?_)
    ·rw [g10]
     replace hx8 := of_bif_t hx8 g10
     refine go_run' ttok 10 rfl (go_nil nd ?_)
     have e11 := hx8
     refine then_norm ⟨rfl, true, [(3, some 3)], ⟨rfl, rfl, rfl, rfl, rfl, ⟨wkP_id _ rfl, trivial⟩, trivial⟩, e11⟩
    ·rw [g10]
     replace hx8 := of_bif_f hx8 g10
     refine go_run' ttok 2 rfl ?_
     refine go_call fn91 (defect_isEmpty_w d.b.y _ rfl) rfl rfl rfl rfl rfl rfl rfl ?_
     refine go_run' ttok 2 rfl ?_
     refine go_gcase rfl rfl rfl (fun g12 => ?_) (fun g12 => ?_)
     ·rw [g12]
      replace hx8 := of_bif_t hx8 g12
      refine go_run' ttok 5 rfl (go_nil nd ?_)
      have e13 := hx8
      refine then_norm ⟨rfl, true, [(3, some 3)], ⟨rfl, rfl, rfl, rfl, rfl, ⟨wkP_id _ rfl, trivial⟩, trivial⟩, e13⟩
     ·rw [g12]
      replace hx8 := of_bif_f hx8 g12
      refine go_run' ttok 2 rfl ?_
      refine go_call fn91 (defect_isEmpty_w d.b.z _ rfl) rfl rfl rfl rfl rfl rfl rfl ?_
      refine go_run' ttok 2 rfl (go_nil nd ?_)
      have e14 := hx8
      refine then_norm ⟨rfl, (defect_isEmpty_g d.b.z), [(3, some 3)], ⟨rfl, rfl, rfl, rfl, rfl, ⟨wkP_id _ rfl, trivial⟩, trivial⟩, e14⟩
   ·intro vv1 hw9
    subst hw9
    refine awp_cond (b := vv1) rfl (fun c15 => ?_) (fun c15 => ?_)
    ·replace h := of_bif_t h c15
     refine awp_seq (awp_go hmix (go_run' ttok 1 rfl (go_nil nd (then_norm (awp_ret (block_ret (then_ret ?_)))))))
     have e16 := h
     subst e16
     refine ret_ret ?_
     refine fin0 ttok rfl rfl ?_
     exact (wkP_refl _ rfl)
    ·replace h := of_bif_f h c15
     refine awp_seq (awp_go hmix (go_run' ttok 2 rfl ?_))
     refine go_call fn72 (defect_inside_w d.b.x (-600) 600 _ rfl) rfl rfl rfl rfl rfl rfl rfl ?_
     refine go_run' ttok 2 rfl ?_
     refine go_gcase rfl rfl rfl (fun g17 => ?_) (fun g17 => ?_)
     ·rw [g17]
      replace h := of_bif_t h g17
      refine go_run' ttok 12 rfl (go_nil nd (then_norm ?_))
      refine awp_cond rfl (fun tt0 => ?_) (fun h => by cases h)
      clear tt0
      refine awp_seq (awp_go hmix (go_run' ttok 1 rfl (go_nil nd (then_norm (awp_ret (block_ret (then_ret ?_)))))))
      have e18 := h
      subst e18
      refine ret_ret ?_
      refine fin0 ttok rfl rfl ?_
      exact (wkP_refl _ rfl)
     ·rw [g17]
      replace h := of_bif_f h g17
      refine go_run' ttok 2 rfl ?_
      refine go_call fn72 (defect_inside_w d.b.y (-600) 600 _ rfl) rfl rfl rfl rfl rfl rfl rfl ?_
      refine go_run' ttok 3 rfl ?_
      refine go_gcase rfl rfl rfl (fun g19 => ?_) (fun g19 => ?_)
      ·rw [g19]
       replace h := of_bif_t h g19
       refine go_run' ttok 6 rfl (go_nil nd (then_norm ?_))
       refine awp_cond rfl (fun tt0 => ?_) (fun h => by cases h)
       clear tt0
       refine awp_seq (awp_go hmix (go_run' ttok 1 rfl (go_nil nd (then_norm (awp_ret (block_ret (then_ret ?_)))))))
       have e20 := h
       subst e20
       refine ret_ret ?_
       refine fin0 ttok rfl rfl ?_
       exact (wkP_refl _ rfl)
      ·rw [g19]
       replace h := of_bif_f h g19
       refine go_run' ttok 2 rfl ?_
       refine go_call fn72 (defect_inside_w d.b.z 0 20000 _ rfl) rfl rfl rfl rfl rfl rfl rfl ?_
       refine go_run' ttok 3 rfl (go_nil nd (then_norm ?_))
       refine awp_cond (b := (!(defect_inside_g d.b.z 0 20000))) rfl (fun c21 => ?_) (fun c21 => ?_)
       ·replace h := of_bif_t h c21
        refine awp_seq (awp_go hmix (go_run' ttok 1 rfl (go_nil nd (then_norm (awp_ret (block_ret (then_ret ?_)))))))
        have e22 := h
        subst e22
        refine ret_ret ?_
        refine fin0 ttok rfl rfl ?_
        exact (wkP_refl _ rfl)
       ·replace h := of_bif_f h c21
        refine awp_skip (block_norm (then_norm (awp_seq (awp_go hmix (go_run' ttok 1 rfl (go_nil nd (then_norm (awp_ret ?_))))))))
        have e23 := h
        subst e23
        refine ret_ret ?_
        refine fin0 ttok rfl rfl ?_
        exact (wkP_refl _ rfl)

noncomputable def defect_Check_s1 (l : (List Df)) (vv : Int) : Option (Int ⊕ (Int ⊕ Unit)) :=
 (bif (decide (vv < ((l.length : Nat) : Int))) then (Option.bind (getI l vv) (fun e => (bif ((defect_check_g e) != 0) then some (Sum.inr (Sum.inl (defect_check_g e))) else some (Sum.inl (W64 (vv + 1)))))) else some (Sum.inr (Sum.inr ())))
/-- sawmill/defect.Check -/
noncomputable def defect_Check_g (l : (List Df)) : Option Int :=
 (bif (decide (64 < ((l.length : Nat) : Int))) then some 4 else (Option.bind ((loopO (fun q => defect_Check_s1 l q) 0) : Option (Int ⊕ Unit)) (Sum.elim (fun q => some q) (fun _ => some 0))))
theorem defect_Check_w (l : (List Df)) (r : Int) (h : defect_Check_g l = some r) : Holds Try.prog 68 [((encL encDf) l)] [] (I r) [] := by
 unfold defect_Check_g at h
 refine holds_fn Try.func68 rfl Try.ntmps68 rfl rfl rfl (fun lim => ?_)
 refine awp_seq (awp_go hmix (go_run' ttok 1 rfl (go_nil nd (then_norm (awp_seq (awp_seq (awp_go hmix (go_run' ttok 1 rfl ?_))))))))
 refine go_lenT encDf l ttok rfl rfl rfl rfl rfl rfl ?_
 refine go_run' ttok 1 rfl (go_nil nd (then_norm ?_))
 refine awp_cond (b := (decide (64 < ((l.length : Nat) : Int)))) rfl (fun c1 => ?_) (fun c1 => ?_)
 ·replace h := of_bif_t h c1
  refine awp_seq (awp_go hmix (go_run' ttok 1 rfl (go_nil nd (then_norm (awp_ret (then_ret ?_))))))
  have e2 := of_some h
  subst e2
  refine ret_ret ?_
  refine fin0 ttok rfl rfl ?_
  exact (wkP_refl _ rfl)
 ·replace h := of_bif_f h c1
  refine awp_skip (then_norm ?_)
  obtain ⟨y, hx3, h⟩ := of_obind h
  refine awp_seqJ (X := Unit) [] [] (fun _ => []) (fun _ => []) (fun w => Sum.inr w = y) rfl rfl ?_ ?_
  ·skip
   refine awp_seq (awp_go hmix (go_run' ttok 1 rfl ?_))
   refine go_lenT encDf l ttok rfl rfl rfl rfl rfl rfl ?_
   refine go_run' ttok 1 rfl (go_nil nd (then_norm (awp_block ?_)))
   refine awp_loopD (X := Int) (Y := (Int ⊕ Unit)) [9, 10] [] (fun q => [(11, (I q))]) (fun q => []) (fun q => defect_Check_s1 l q) 0 [] hx3 ⟨rfl, rfl, rfl, rfl, rfl, ⟨wkP_id _ rfl, trivial⟩, trivial⟩ (fun vv vR vz hz5 hk6 => ?_)
   change defect_Check_s1 l vv = _ at hz5
   unfold defect_Check_s1 at hz5
   refine awp_seq (awp_go hmix (go_run' ttok 1 rfl (go_nil nd (then_norm (awp_seq ?_)))))
   refine awp_cond (b := (decide (vv < ((l.length : Nat) : Int)))) rfl (fun c7 => ?_) (fun c7 => ?_)
   ·replace hz5 := of_bif_t hz5 c7
    refine awp_skip (then_norm (awp_seq (awp_block (awp_seq (awp_go hmix ?_)))))
    obtain ⟨e, hv8, hz5⟩ := of_obind hz5
    refine go_indexT encDf l vv e hv8 ttok rfl rfl rfl rfl rfl rfl rfl rfl rfl ?_
    refine go_run' ttok 3 rfl (go_nil nd (then_norm (awp_seq (awp_go hmix (go_run' ttok 1 rfl ?_)))))
    refine go_call fn88 (defect_check_w e _ rfl) rfl rfl rfl rfl rfl rfl rfl ?_
    refine go_run' ttok 1 rfl (go_nil nd (then_norm (awp_seq (awp_go hmix (go_run' ttok 2 rfl (go_nil nd (then_norm ?_)))))))
    refine awp_cond (b := ((defect_check_g e) != 0)) rfl (fun c9 => ?_) (fun c9 => ?_)
    ·replace hz5 := of_bif_t hz5 c9
     refine awp_seq (awp_go hmix (go_run' ttok 2 rfl (go_nil nd (then_norm (awp_ret (block_ret (then_ret ?_)))))))
     obtain ⟨t, hn10, hq⟩ := of_mapr' hz5
     subst hq
     have hq : t = _ := hk6
     subst hq
     refine then_ret (block_ret ?_)
     obtain ⟨t1, hn11, hq⟩ := of_mapl' hn10
     subst hq
     have hq := of_inl h
     replace hq := of_some hq
     subst hq
     refine then_ret ?_
     have e12 := of_some hn11
     subst e12
     refine ret_ret ?_
     refine fin0 ttok rfl rfl ?_
     exact (wkP_refl _ rfl)
    ·replace hz5 := of_bif_f hz5 c9
     refine awp_skip (block_norm (then_norm (awp_go hmix (go_run' ttok 2 rfl (go_nil nd ?_)))))
     have e13 := of_some hz5
     subst e13
     refine then_norm ⟨rfl, (W64 (vv + 1)), [], ⟨rfl, rfl, rfl, rfl, rfl, ⟨wkP_id _ rfl, trivial⟩, trivial⟩, hk6⟩
   ·replace hz5 := of_bif_f hz5 c7
    refine awp_exit (then_exit ?_)
    obtain ⟨t2, hn14, hq⟩ := of_mapr' hz5
    subst hq
    have hq : t2 = _ := hk6
    subst hq
    refine then_exit (block_here ?_)
    have e15 := of_some hn14
    refine then_norm ⟨rfl, (), [], ⟨rfl, rfl, rfl, rfl, rfl, trivial, trivial⟩, e15⟩
  ·intro w hw4
   subst hw4
   replace h := of_inr h
   refine awp_seq (awp_go hmix (go_run' ttok 1 rfl (go_nil nd (then_norm (awp_ret ?_)))))
   have e16 := of_some h
   subst e16
   refine ret_ret ?_
   refine fin0 ttok rfl rfl ?_
   exact (wkP_refl _ rfl)
noncomputable def defect_Check_cs1 (N : Nat) (l : (List Df)) (vv : Int) : Option (Int ⊕ (Int ⊕ Unit)) :=
 (bif (decide (vv < ((l.length : Nat) : Int))) then (Option.bind (getI l vv) (fun e => (bif ((defect_check_g e) != 0) then some (Sum.inr (Sum.inl (defect_check_g e))) else some (Sum.inl (W64 (vv + 1)))))) else some (Sum.inr (Sum.inr ())))
theorem defect_Check_cs1_le (N : Nat) (l : (List Df)) (vv : Int) : OLe (defect_Check_cs1 N l vv) (defect_Check_s1 l vv) := by
 unfold defect_Check_cs1 defect_Check_s1
 repeat' (first | exact ole_rfl | refine ole_bif ?_ ?_ | refine ole_bind ?_ (fun _ => ?_) | refine ole_let (fun _ => ?_) | refine ole_map ?_ | refine ole_elim (fun _ => ?_) (fun _ => ?_) | refine ole_loop (fun _ => ?_))
noncomputable def defect_Check_c (N : Nat) (l : (List Df)) : Option Int :=
 (bif (decide (64 < ((l.length : Nat) : Int))) then some 4 else (Option.bind ((iterX N (fun q => defect_Check_cs1 N l q) 0) : Option (Int ⊕ Unit)) (Sum.elim (fun q => some q) (fun _ => some 0))))
theorem defect_Check_le (N : Nat) (l : (List Df)) : OLe (defect_Check_c N l) (defect_Check_g l) := by
 unfold defect_Check_c defect_Check_g
 repeat' (first | exact ole_rfl | exact defect_Check_cs1_le _ _ _ | refine ole_bif ?_ ?_ | refine ole_bind ?_ (fun _ => ?_) | refine ole_let (fun _ => ?_) | refine ole_map ?_ | refine ole_elim (fun _ => ?_) (fun _ => ?_) | refine ole_loop (fun _ => ?_))

noncomputable def resaw_checkBoard_s1 (b : TBoard) (vv : Int) : Option (Int ⊕ (Int ⊕ Unit)) :=
 (bif (decide (vv < 4)) then (Option.bind (getI [b.Box.x.a, b.Box.x.b, b.Box.y.a, b.Box.y.b] vv) (fun e => (bif (decide (e < (-600))) then some (Sum.inr (Sum.inl 9)) else (bif (decide (600 < e)) then some (Sum.inr (Sum.inl 9)) else some (Sum.inl (W64 (vv + 1))))))) else some (Sum.inr (Sum.inr ())))
noncomputable def resaw_checkBoard_s2 (b : TBoard) (vv1 : Int) : Option (Int ⊕ (Int ⊕ Unit)) :=
 (bif (decide (vv1 < 2)) then (Option.bind (getI [b.Box.z.a, b.Box.z.b] vv1) (fun e1 => (bif (decide (e1 < 0)) then some (Sum.inr (Sum.inl 9)) else (bif (decide (20000 < e1)) then some (Sum.inr (Sum.inl 9)) else some (Sum.inl (W64 (vv1 + 1))))))) else some (Sum.inr (Sum.inr ())))
/-- sawmill/resaw.checkBoard -/
noncomputable def resaw_checkBoard_g (b : TBoard) : Option Int :=
 (Option.bind ((loopO (fun q => resaw_checkBoard_s1 b q) 0) : Option (Int ⊕ Unit)) (Sum.elim (fun q => some q) (fun _ => (Option.bind ((loopO (fun q => resaw_checkBoard_s2 b q) 0) : Option (Int ⊕ Unit)) (Sum.elim (fun q => some q) (fun _ => (bif (decide (b.Box.z.b ≤ b.Box.z.a)) then some 19 else (Option.bind (defect_Check_g b.Defects) (fun cv => some cv)))))))))
theorem resaw_checkBoard_w (b : TBoard) (r : Int) (h : resaw_checkBoard_g b = some r) : Holds Try.prog 46 [(encTBoard b)] [] (I r) [] := by
 unfold resaw_checkBoard_g at h
 refine holds_fn Try.func46 rfl Try.ntmps46 rfl rfl rfl (fun lim => ?_)
 refine awp_seq (awp_go hmix (go_run' ttok 2 rfl (go_nil nd (then_norm ?_))))
 obtain ⟨y, hx1, h⟩ := of_obind h
 refine awp_seqJ (X := Unit) [1] [1] (fun _ => []) (fun _ => []) (fun w => Sum.inr w = y) rfl rfl ?_ ?_
 ·skip
  refine awp_seq (awp_go hmix (go_run' ttok 18 rfl (go_nil nd (then_norm (awp_block ?_)))))
  refine awp_loopD (X := Int) (Y := (Int ⊕ Unit)) [1, 23] [1] (fun q => [(24, (I q))]) (fun q => []) (fun q => resaw_checkBoard_s1 b q) 0 [(1, some 1)] hx1 ⟨rfl, rfl, rfl, rfl, rfl, ⟨wkP_id _ rfl, trivial⟩, trivial⟩ (fun vv vR vz hz3 hk4 => ?_)
  change resaw_checkBoard_s1 b vv = _ at hz3
  unfold resaw_checkBoard_s1 at hz3
  refine awp_seq (awp_go hmix (go_run' ttok 1 rfl (go_nil nd (then_norm (awp_seq ?_)))))
  refine awp_cond (b := (decide (vv < 4))) rfl (fun c5 => ?_) (fun c5 => ?_)
  ·replace hz3 := of_bif_t hz3 c5
   refine awp_skip (then_norm (awp_seq (awp_block (awp_seq (awp_go hmix ?_)))))
   obtain ⟨e, hv6, hz3⟩ := of_obind hz3
   refine go_indexVT I [b.Box.x.a, b.Box.x.b, b.Box.y.a, b.Box.y.b] vv e hv6 rfl (by intro j el hj; match j, hj with | 0, hj => (cases hj; rfl) | 1, hj => (cases hj; rfl) | 2, hj => (cases hj; rfl) | 3, hj => (cases hj; rfl) | (_ + 4), hj => (exact absurd hj (by simp))) ttok rfl rfl rfl rfl rfl rfl rfl rfl ?_
   refine go_run' ttok 1 rfl (go_nil nd (then_norm (awp_seq (awp_go hmix (go_run' ttok 3 rfl ?_)))))
   refine go_gcase rfl rfl rfl (fun g7 => ?_) (fun g7 => ?_)
   ·rw [g7]
    replace hz3 := of_bif_t hz3 g7
    refine go_run' ttok 3 rfl (go_nil nd (then_norm ?_))
    refine awp_cond rfl (fun tt0 => ?_) (fun h => by cases h)
    clear tt0
    refine awp_seq (awp_go hmix (go_run' ttok 1 rfl (go_nil nd (then_norm (awp_ret (block_ret (then_ret ?_)))))))
    obtain ⟨t, hn8, hq⟩ := of_mapr' hz3
    subst hq
    have hq : t = _ := hk4
    subst hq
    refine then_ret (block_ret ?_)
    obtain ⟨t1, hn9, hq⟩ := of_mapl' hn8
    subst hq
    have hq := of_inl h
    replace hq := of_some hq
    subst hq
    refine then_ret ?_
    have e10 := of_some hn9
    subst e10
    refine ret_ret ?_
    refine fin0 ttok rfl rfl ?_
    exact (wkP_refl _ rfl)
   ·rw [g7]
    replace hz3 := of_bif_f hz3 g7
    refine go_run' ttok 3 rfl (go_nil nd (then_norm ?_))
    refine awp_cond (b := (decide (600 < e))) rfl (fun c11 => ?_) (fun c11 => ?_)
    ·replace hz3 := of_bif_t hz3 c11
     refine awp_seq (awp_go hmix (go_run' ttok 1 rfl (go_nil nd (then_norm (awp_ret (block_ret (then_ret ?_)))))))
     obtain ⟨t2, hn12, hq⟩ := of_mapr' hz3
     subst hq
     have hq : t2 = _ := hk4
     subst hq
     refine then_ret (block_ret ?_)
     obtain ⟨t3, hn13, hq⟩ := of_mapl' hn12
     subst hq
     have hq := of_inl h
     replace hq := of_some hq
     subst hq
     refine then_ret ?_
     have e14 := of_some hn13
     subst e14
     refine ret_ret ?_
     refine fin0 ttok rfl rfl ?_
     exact (wkP_refl _ rfl)
    ·replace hz3 := of_bif_f hz3 c11
     refine awp_skip (block_norm (then_norm (awp_go hmix (go_run' ttok 2 rfl (go_nil nd ?_)))))
     have e15 := of_some hz3
     subst e15
     refine then_norm ⟨rfl, (W64 (vv + 1)), [(1, some 1)], ⟨rfl, rfl, rfl, rfl, rfl, ⟨wkP_id _ rfl, trivial⟩, trivial⟩, hk4⟩
  ·replace hz3 := of_bif_f hz3 c5
   refine awp_exit (then_exit ?_)
   obtain ⟨t4, hn16, hq⟩ := of_mapr' hz3
   subst hq
   have hq : t4 = _ := hk4
   subst hq
   refine then_exit (block_here ?_)
   have e17 := of_some hn16
   refine then_norm ⟨rfl, (), [(1, some 1)], ⟨rfl, rfl, rfl, rfl, rfl, trivial, trivial⟩, e17⟩
 ·intro w hw2
  subst hw2
  replace h := of_inr h
  obtain ⟨y1, hx18, h⟩ := of_obind h
  refine awp_seqJ (X := Unit) [1] [1] (fun _ => []) (fun _ => []) (fun w1 => Sum.inr w1 = y1) rfl rfl ?_ ?_
  ·skip
   refine awp_seq (awp_go hmix (go_run' ttok 10 rfl (go_nil nd (then_norm (awp_block ?_)))))
   refine awp_loopD (X := Int) (Y := (Int ⊕ Unit)) [1, 42] [1] (fun q => [(43, (I q))]) (fun q => []) (fun q => resaw_checkBoard_s2 b q) 0 [(1, some 1)] hx18 ⟨rfl, rfl, rfl, rfl, rfl, ⟨wkP_id _ rfl, trivial⟩, trivial⟩ (fun vv1 vR1 vz1 hz20 hk21 => ?_)
   change resaw_checkBoard_s2 b vv1 = _ at hz20
   unfold resaw_checkBoard_s2 at hz20
   refine awp_seq (awp_go hmix (go_run' ttok 1 rfl (go_nil nd (then_norm (awp_seq ?_)))))
   refine awp_cond (b := (decide (vv1 < 2))) rfl (fun c22 => ?_) (fun c22 => ?_)
   ·replace hz20 := of_bif_t hz20 c22
    refine awp_skip (then_norm (awp_seq (awp_block (awp_seq (awp_go hmix ?_)))))
    obtain ⟨e1, hv23, hz20⟩ := of_obind hz20
    refine go_indexVT I [b.Box.z.a, b.Box.z.b] vv1 e1 hv23 rfl (by intro j el hj; match j, hj with | 0, hj => (cases hj; rfl) | 1, hj => (cases hj; rfl) | (_ + 2), hj => (exact absurd hj (by simp))) ttok rfl rfl rfl rfl rfl rfl rfl rfl ?_
    refine go_run' ttok 1 rfl (go_nil nd (then_norm (awp_seq (awp_go hmix (go_run' ttok 3 rfl ?_)))))
    refine go_gcase rfl rfl rfl (fun g24 => ?_) (fun g24 => ?_)
    ·rw [g24]
     replace hz20 := of_bif_t hz20 g24
     refine go_run' ttok 3 rfl (go_nil nd (then_norm ?_))
     refine awp_cond rfl (fun tt0 => ?_) (fun h => by cases h)
     clear tt0
     refine awp_seq (awp_go hmix (go_run' ttok 1 rfl (go_nil nd (then_norm (awp_ret (block_ret (then_ret ?_)))))))
     obtain ⟨t5, hn25, hq⟩ := of_mapr' hz20
     subst hq
     have hq : t5 = _ := hk21
     subst hq
     refine then_ret (block_ret ?_)
     obtain ⟨t6, hn26, hq⟩ := of_mapl' hn25
     subst hq
     have hq := of_inl h
     replace hq := of_some hq
     subst hq
     refine then_ret ?_
     have e27 := of_some hn26
     subst e27
     refine ret_ret ?_
     refine fin0 ttok rfl rfl ?_
     exact (wkP_refl _ rfl)
    ·rw [g24]
     replace hz20 := of_bif_f hz20 g24
     refine go_run' ttok 3 rfl (go_nil nd (then_norm ?_))
     refine awp_cond (b := (decide (20000 < e1))) rfl (fun c28 => ?_) (fun c28 => ?_)
     ·replace hz20 := of_bif_t hz20 c28
      refine awp_seq (awp_go hmix (go_run' ttok 1 rfl (go_nil nd (then_norm (awp_ret (block_ret (then_ret ?_)))))))
      obtain ⟨t7, hn29, hq⟩ := of_mapr' hz20
      subst hq
      have hq : t7 = _ := hk21
      subst hq
      refine then_ret (block_ret ?_)
      obtain ⟨t8, hn30, hq⟩ := of_mapl' hn29
      subst hq
      have hq := of_inl h
      replace hq := of_some hq
      subst hq
      refine then_ret ?_
      have e31 := of_some hn30
      subst e31
      refine ret_ret ?_
      refine fin0 ttok rfl rfl ?_
      exact (wkP_refl _ rfl)
     ·replace hz20 := of_bif_f hz20 c28
      refine awp_skip (block_norm (then_norm (awp_go hmix (go_run' ttok 2 rfl (go_nil nd ?_)))))
      have e32 := of_some hz20
      subst e32
      refine then_norm ⟨rfl, (W64 (vv1 + 1)), [(1, some 1)], ⟨rfl, rfl, rfl, rfl, rfl, ⟨wkP_id _ rfl, trivial⟩, trivial⟩, hk21⟩
   ·replace hz20 := of_bif_f hz20 c22
    refine awp_exit (then_exit ?_)
    obtain ⟨t9, hn33, hq⟩ := of_mapr' hz20
    subst hq
    have hq : t9 = _ := hk21
    subst hq
    refine then_exit (block_here ?_)
    have e34 := of_some hn33
    refine then_norm ⟨rfl, (), [(1, some 1)], ⟨rfl, rfl, rfl, rfl, rfl, trivial, trivial⟩, e34⟩
  ·intro w1 hw19
   subst hw19
   replace h := of_inr h
   refine awp_seq (awp_seq (awp_go hmix (go_run' ttok 9 rfl (go_nil nd (then_norm ?_)))))
   refine awp_cond (b := (decide (b.Box.z.b ≤ b.Box.z.a))) rfl (fun c35 => ?_) (fun c35 => ?_)
   ·replace h := of_bif_t h c35
    refine awp_seq (awp_go hmix (go_run' ttok 1 rfl (go_nil nd (then_norm (awp_ret (then_ret ?_))))))
    have e36 := of_some h
    subst e36
    refine ret_ret ?_
    refine fin0 ttok rfl rfl ?_
    exact (wkP_refl _ rfl)
   ·replace h := of_bif_f h c35
    refine awp_skip (then_norm (awp_seq (awp_go hmix (go_run' ttok 2 rfl ?_))))
    obtain ⟨cv, hv37, h⟩ := of_obind h
    refine go_call fn68 (defect_Check_w b.Defects cv hv37) rfl rfl rfl rfl rfl rfl rfl ?_
    refine go_run' ttok 1 rfl (go_nil nd (then_norm (awp_ret ?_)))
    have e38 := of_some h
    subst e38
    refine ret_ret ?_
    refine fin0 ttok rfl rfl ?_
    exact (wkP_refl _ rfl)
noncomputable def resaw_checkBoard_cs1 (N : Nat) (b : TBoard) (vv : Int) : Option (Int ⊕ (Int ⊕ Unit)) :=
 (bif (decide (vv < 4)) then (Option.bind (getI [b.Box.x.a, b.Box.x.b, b.Box.y.a, b.Box.y.b] vv) (fun e => (bif (decide (e < (-600))) then some (Sum.inr (Sum.inl 9)) else (bif (decide (600 < e)) then some (Sum.inr (Sum.inl 9)) else some (Sum.inl (W64 (vv + 1))))))) else some (Sum.inr (Sum.inr ())))
theorem resaw_checkBoard_cs1_le (N : Nat) (b : TBoard) (vv : Int) : OLe (resaw_checkBoard_cs1 N b vv) (resaw_checkBoard_s1 b vv) := by
 unfold resaw_checkBoard_cs1 resaw_checkBoard_s1
 repeat' (first | exact ole_rfl | exact defect_Check_le _ _ | refine ole_bif ?_ ?_ | refine ole_bind ?_ (fun _ => ?_) | refine ole_let (fun _ => ?_) | refine ole_map ?_ | refine ole_elim (fun _ => ?_) (fun _ => ?_) | refine ole_loop (fun _ => ?_))
noncomputable def resaw_checkBoard_cs2 (N : Nat) (b : TBoard) (vv1 : Int) : Option (Int ⊕ (Int ⊕ Unit)) :=
 (bif (decide (vv1 < 2)) then (Option.bind (getI [b.Box.z.a, b.Box.z.b] vv1) (fun e1 => (bif (decide (e1 < 0)) then some (Sum.inr (Sum.inl 9)) else (bif (decide (20000 < e1)) then some (Sum.inr (Sum.inl 9)) else some (Sum.inl (W64 (vv1 + 1))))))) else some (Sum.inr (Sum.inr ())))
theorem resaw_checkBoard_cs2_le (N : Nat) (b : TBoard) (vv1 : Int) : OLe (resaw_checkBoard_cs2 N b vv1) (resaw_checkBoard_s2 b vv1) := by
 unfold resaw_checkBoard_cs2 resaw_checkBoard_s2
 repeat' (first | exact ole_rfl | exact defect_Check_le _ _ | exact resaw_checkBoard_cs1_le _ _ _ | refine ole_bif ?_ ?_ | refine ole_bind ?_ (fun _ => ?_) | refine ole_let (fun _ => ?_) | refine ole_map ?_ | refine ole_elim (fun _ => ?_) (fun _ => ?_) | refine ole_loop (fun _ => ?_))
noncomputable def resaw_checkBoard_c (N : Nat) (b : TBoard) : Option Int :=
 (Option.bind ((iterX N (fun q => resaw_checkBoard_cs1 N b q) 0) : Option (Int ⊕ Unit)) (Sum.elim (fun q => some q) (fun _ => (Option.bind ((iterX N (fun q => resaw_checkBoard_cs2 N b q) 0) : Option (Int ⊕ Unit)) (Sum.elim (fun q => some q) (fun _ => (bif (decide (b.Box.z.b ≤ b.Box.z.a)) then some 19 else (Option.bind ((defect_Check_c N) b.Defects) (fun cv => some cv)))))))))
theorem resaw_checkBoard_le (N : Nat) (b : TBoard) : OLe (resaw_checkBoard_c N b) (resaw_checkBoard_g b) := by
 unfold resaw_checkBoard_c resaw_checkBoard_g
 repeat' (first | exact ole_rfl | exact defect_Check_le _ _ | exact resaw_checkBoard_cs1_le _ _ _ | exact resaw_checkBoard_cs2_le _ _ _ | refine ole_bif ?_ ?_ | refine ole_bind ?_ (fun _ => ?_) | refine ole_let (fun _ => ?_) | refine ole_map ?_ | refine ole_elim (fun _ => ?_) (fun _ => ?_) | refine ole_loop (fun _ => ?_))

noncomputable def slices_Index___int_int__s1 (s : (List Int)) (vv : Int) (vv1 : Int) : Option (Int ⊕ (Int ⊕ Unit)) :=
 (bif (decide (vv1 < ((s.length : Nat) : Int))) then (Option.bind (getI s vv1) (fun e => (bif (vv == e) then some (Sum.inr (Sum.inl vv1)) else some (Sum.inl (W64 (vv1 + 1)))))) else some (Sum.inr (Sum.inr ())))
/-- slices.Index[[]int,int] -/
noncomputable def slices_Index___int_int__g (s : (List Int)) (vv : Int) : Option Int :=
 (Option.bind ((loopO (fun q => slices_Index___int_int__s1 s vv q) 0) : Option (Int ⊕ Unit)) (Sum.elim (fun q => some q) (fun _ => some (-1))))
theorem slices_Index___int_int__w (s : (List Int)) (vv : Int) (r : Int) (h : slices_Index___int_int__g s vv = some r) : Holds Try.prog 89 [((encL I) s), (I vv)] [] (I r) [] := by
 unfold slices_Index___int_int__g at h
 refine holds_fn Try.func89 rfl Try.ntmps89 rfl rfl rfl (fun lim => ?_)
 refine awp_seq (awp_go hmix (go_run' ttok 1 rfl (go_nil nd (then_norm ?_))))
 obtain ⟨y, hx1, h⟩ := of_obind h
 refine awp_seqJ (X := Unit) [] [] (fun _ => []) (fun _ => []) (fun w => Sum.inr w = y) rfl rfl ?_ ?_
 ·skip
  refine awp_seq (awp_go hmix (go_run' ttok 1 rfl ?_))
  refine go_lenT I s ttok rfl rfl rfl rfl rfl rfl ?_
  refine go_run' ttok 1 rfl (go_nil nd (then_norm (awp_block ?_)))
  refine awp_loopD (X := Int) (Y := (Int ⊕ Unit)) [0, 1, 7] [] (fun q => [(8, (I q))]) (fun q => []) (fun q => slices_Index___int_int__s1 s vv q) 0 [] hx1 ⟨rfl, rfl, rfl, rfl, rfl, ⟨wkP_id _ rfl, trivial⟩, trivial⟩ (fun vv1 vR vz hz3 hk4 => ?_)
  change slices_Index___int_int__s1 s vv vv1 = _ at hz3
  unfold slices_Index___int_int__s1 at hz3
  refine awp_seq (awp_go hmix (go_run' ttok 1 rfl (go_nil nd (then_norm (awp_seq ?_)))))
  refine awp_cond (b := (decide (vv1 < ((s.length : Nat) : Int)))) rfl (fun c5 => ?_) (fun c5 => ?_)
  ·replace hz3 := of_bif_t hz3 c5
   refine awp_skip (then_norm (awp_seq (awp_block (awp_seq (awp_go hmix (go_run' ttok 2 rfl (go_nil nd (then_norm (awp_seq (awp_go hmix (go_run' ttok 3 rfl ?_)))))))))))
   obtain ⟨e, hv6, hz3⟩ := of_obind hz3
   refine go_indexT I s vv1 e hv6 ttok rfl rfl rfl rfl rfl rfl rfl rfl rfl ?_
   refine go_run' ttok 2 rfl (go_nil nd (then_norm ?_))
   refine awp_cond (b := (vv == e)) rfl (fun c7 => ?_) (fun c7 => ?_)
   ·replace hz3 := of_bif_t hz3 c7
    refine awp_seq (awp_go hmix (go_run' ttok 2 rfl (go_nil nd (then_norm (awp_ret (block_ret (then_ret ?_)))))))
    obtain ⟨t, hn8, hq⟩ := of_mapr' hz3
    subst hq
    have hq : t = _ := hk4
    subst hq
    refine then_ret (block_ret ?_)
    obtain ⟨t1, hn9, hq⟩ := of_mapl' hn8
    subst hq
    have hq := of_inl h
    replace hq := of_some hq
    subst hq
    refine then_ret ?_
    have e10 := of_some hn9
    subst e10
    refine ret_ret ?_
    refine fin0 ttok rfl rfl ?_
    exact (wkP_refl _ rfl)
   ·replace hz3 := of_bif_f hz3 c7
    refine awp_skip (block_norm (then_norm (awp_go hmix (go_run' ttok 2 rfl (go_nil nd ?_)))))
    have e11 := of_some hz3
    subst e11
    refine then_norm ⟨rfl, (W64 (vv1 + 1)), [], ⟨rfl, rfl, rfl, rfl, rfl, ⟨wkP_id _ rfl, trivial⟩, trivial⟩, hk4⟩
  ·replace hz3 := of_bif_f hz3 c5
   refine awp_exit (then_exit ?_)
   obtain ⟨t2, hn12, hq⟩ := of_mapr' hz3
   subst hq
   have hq : t2 = _ := hk4
   subst hq
   refine then_exit (block_here ?_)
   have e13 := of_some hn12
   refine then_norm ⟨rfl, (), [], ⟨rfl, rfl, rfl, rfl, rfl, trivial, trivial⟩, e13⟩
 ·intro w hw2
  subst hw2
  replace h := of_inr h
  refine awp_seq (awp_go hmix (go_run' ttok 1 rfl (go_nil nd (then_norm (awp_ret ?_)))))
  have e14 := of_some h
  subst e14
  refine ret_ret ?_
  refine fin0 ttok rfl rfl ?_
  exact (wkP_refl _ rfl)
noncomputable def slices_Index___int_int__cs1 (N : Nat) (s : (List Int)) (vv : Int) (vv1 : Int) : Option (Int ⊕ (Int ⊕ Unit)) :=
 (bif (decide (vv1 < ((s.length : Nat) : Int))) then (Option.bind (getI s vv1) (fun e => (bif (vv == e) then some (Sum.inr (Sum.inl vv1)) else some (Sum.inl (W64 (vv1 + 1)))))) else some (Sum.inr (Sum.inr ())))
theorem slices_Index___int_int__cs1_le (N : Nat) (s : (List Int)) (vv : Int) (vv1 : Int) : OLe (slices_Index___int_int__cs1 N s vv vv1) (slices_Index___int_int__s1 s vv vv1) := by
 unfold slices_Index___int_int__cs1 slices_Index___int_int__s1
 repeat' (first | exact ole_rfl | refine ole_bif ?_ ?_ | refine ole_bind ?_ (fun _ => ?_) | refine ole_let (fun _ => ?_) | refine ole_map ?_ | refine ole_elim (fun _ => ?_) (fun _ => ?_) | refine ole_loop (fun _ => ?_))
noncomputable def slices_Index___int_int__c (N : Nat) (s : (List Int)) (vv : Int) : Option Int :=
 (Option.bind ((iterX N (fun q => slices_Index___int_int__cs1 N s vv q) 0) : Option (Int ⊕ Unit)) (Sum.elim (fun q => some q) (fun _ => some (-1))))
theorem slices_Index___int_int__le (N : Nat) (s : (List Int)) (vv : Int) : OLe (slices_Index___int_int__c N s vv) (slices_Index___int_int__g s vv) := by
 unfold slices_Index___int_int__c slices_Index___int_int__g
 repeat' (first | exact ole_rfl | exact slices_Index___int_int__cs1_le _ _ _ _ | refine ole_bif ?_ ?_ | refine ole_bind ?_ (fun _ => ?_) | refine ole_let (fun _ => ?_) | refine ole_map ?_ | refine ole_elim (fun _ => ?_) (fun _ => ?_) | refine ole_loop (fun _ => ?_))

/-- slices.Contains[[]int,int] -/
noncomputable def slices_Contains___int_int__g (s : (List Int)) (vv : Int) : Option Bool :=
 (Option.bind (slices_Index___int_int__g s vv) (fun iv => some (decide (0 ≤ iv))))
theorem slices_Contains___int_int__w (s : (List Int)) (vv : Int) (r : Bool) (h : slices_Contains___int_int__g s vv = some r) : Holds Try.prog 71 [((encL I) s), (I vv)] [] (B r) [] := by
 unfold slices_Contains___int_int__g at h
 refine holds_fn Try.func71 rfl Try.ntmps71 rfl rfl rfl (fun lim => ?_)
 refine awp_seq (awp_go hmix (go_run' ttok 1 rfl (go_nil nd (then_norm (awp_seq (awp_go hmix (go_run' ttok 2 rfl ?_)))))))
 obtain ⟨iv, hv1, h⟩ := of_obind h
 refine go_call fn89 (slices_Index___int_int__w s vv iv hv1) rfl rfl rfl rfl rfl rfl rfl ?_
 refine go_run' ttok 2 rfl (go_nil nd (then_norm (awp_ret ?_)))
 have e2 := of_some h
 subst e2
 refine ret_ret ?_
 refine fin0 ttok rfl rfl ?_
 exact (wkP_refl _ rfl)
noncomputable def slices_Contains___int_int__c (N : Nat) (s : (List Int)) (vv : Int) : Option Bool :=
 (Option.bind ((slices_Index___int_int__c N) s vv) (fun iv => some (decide (0 ≤ iv))))
theorem slices_Contains___int_int__le (N : Nat) (s : (List Int)) (vv : Int) : OLe (slices_Contains___int_int__c N s vv) (slices_Contains___int_int__g s vv) := by
 unfold slices_Contains___int_int__c slices_Contains___int_int__g
 repeat' (first | exact ole_rfl | exact slices_Index___int_int__le _ _ _ | refine ole_bif ?_ ?_ | refine ole_bind ?_ (fun _ => ?_) | refine ole_let (fun _ => ?_) | refine ole_map ?_ | refine ole_elim (fun _ => ?_) (fun _ => ?_) | refine ole_loop (fun _ => ?_))

noncomputable def resaw_thicknesses_s1 (c : (List TProduct)) (products : (List Int)) (width : Int) (length : Int) (l1 : (List Int)) (vv : Int) : Option (((List Int) × Int) ⊕ (((List Int) × Int) ⊕ (List Int))) :=
 (bif (decide (vv < ((products.length : Nat) : Int))) then (Option.bind (getI products vv) (fun e => (bif (decide (e < 0)) then some (Sum.inr (Sum.inl ([], 8))) else (bif (decide (((c.length : Nat) : Int) ≤ e)) then some (Sum.inr (Sum.inl ([], 8))) else (Option.bind (getI c e) (fun e1 => (letB (product_Green_g e1) (fun gv => (bif (gv.2 != width) then some (Sum.inr (Sum.inl ([], 20))) else (Option.bind (getI c e) (fun e2 => (Option.bind (slices_Contains___int_int__g e2.Lengths length) (fun cv => (bif (!cv) then some (Sum.inr (Sum.inl ([], 20))) else (Option.bind (appO 8 l1 ([gv.1])) (fun l2 => some (Sum.inl (l2, (W64 (vv + 1)))))))))))))))))))) else some (Sum.inr (Sum.inr l1)))
/-- sawmill/resaw.thicknesses -/
noncomputable def resaw_thicknesses_g (c : (List TProduct)) (products : (List Int)) (width : Int) (length : Int) : Option ((List Int) × Int) :=
 (Option.bind ((loopO (fun q => resaw_thicknesses_s1 c products width length q.1 q.2) ([], 0)) : Option (((List Int) × Int) ⊕ (List Int))) (Sum.elim (fun q => some q) (fun l => some (l, 0))))
theorem resaw_thicknesses_w (c : (List TProduct)) (products : (List Int)) (width : Int) (length : Int) (r : ((List Int) × Int)) (h : resaw_thicknesses_g c products width length = some r) : Holds Try.prog 48 [((encL encTProduct) c), ((encL I) products), (I width), (I length)] [] (.tup [((encL I) r.1), (I r.2)]) [] := by
 unfold resaw_thicknesses_g at h
 refine holds_fn Try.func48 rfl Try.ntmps48 rfl rfl rfl (fun lim => ?_)
 refine awp_seq (awp_go hmix (go_run' ttok 2 rfl (go_nil nd (then_norm (awp_seq (awp_go hmix (go_run' ttok 1 rfl (go_nil nd (then_norm ?_)))))))))
 obtain ⟨y, hx1, h⟩ := of_obind h
 refine awp_seqJ (X := (List Int)) [] [] (fun w => [(10, (.arr 10 0 w.length))]) (fun w => [(10, some ⟨3, 1, w.map I⟩)]) (fun w => Sum.inr w = y) rfl rfl ?_ ?_
 ·skip
  refine awp_seq (awp_go hmix (go_run' ttok 1 rfl ?_))
  refine go_lenT I products ttok rfl rfl rfl rfl rfl rfl ?_
  refine go_run' ttok 1 rfl (go_nil nd (then_norm (awp_block ?_)))
  refine awp_loopD (X := ((List Int) × Int)) (Y := (((List Int) × Int) ⊕ (List Int))) [0, 2, 3, 15, 16] [] (fun q => [(10, (.arr 10 0 q.1.length)), (17, (I q.2))]) (fun q => [(10, some ⟨3, 1, q.1.map I⟩)]) (fun q => resaw_thicknesses_s1 c products width length q.1 q.2) ([], 0) [(10, none)] hx1 ⟨rfl, rfl, rfl, rfl, rfl, ⟨⟨rfl, rfl, (by first | rfl | (simp [setI]; done) | omega | (dsimp only; omega) | (simp [setI]; omega))⟩, wkP_id _ rfl, trivial⟩, ⟨rfl, trivial⟩⟩ (fun x vR vz hz3 hk4 => ?_)
  obtain ⟨l1, vv⟩ := x
  change resaw_thicknesses_s1 c products width length l1 vv = _ at hz3
  unfold resaw_thicknesses_s1 at hz3
  refine awp_seq (awp_go hmix (go_run' ttok 1 rfl (go_nil nd (then_norm (awp_seq ?_)))))
  refine awp_cond (b := (decide (vv < ((products.length : Nat) : Int)))) rfl (fun c5 => ?_) (fun c5 => ?_)
  ·replace hz3 := of_bif_t hz3 c5
   refine awp_skip (then_norm (awp_seq (awp_block (awp_seq (awp_go hmix ?_)))))
   obtain ⟨e, hv6, hz3⟩ := of_obind hz3
   refine go_indexT I products vv e hv6 ttok rfl rfl rfl rfl rfl rfl rfl rfl rfl ?_
   refine go_run' ttok 2 rfl (go_nil nd (then_norm (awp_seq (awp_seq (awp_go hmix (go_run' ttok 3 rfl ?_))))))
   refine go_gcase rfl rfl rfl (fun g7 => ?_) (fun g7 => ?_)
   ·rw [g7]
    replace hz3 := of_bif_t hz3 g7
    refine go_run' ttok 5 rfl (go_nil nd (then_norm ?_))
    refine awp_cond rfl (fun tt0 => ?_) (fun h => by cases h)
    clear tt0
    refine awp_seq (awp_go hmix (go_run' ttok 2 rfl (go_nil nd (then_norm (awp_ret (then_ret (block_ret (then_ret ?_))))))))
    obtain ⟨t, hn8, hq⟩ := of_mapr' hz3
    subst hq
    have hq : t = _ := hk4
    subst hq
    refine then_ret (block_ret ?_)
    obtain ⟨t1, hn9, hq⟩ := of_mapl' hn8
    subst hq
    have hq := of_inl h
    replace hq := of_some hq
    subst hq
    refine then_ret ?_
    have e10 := of_some hn9
    subst e10
    refine ret_ret ?_
    refine fin0 ttok rfl rfl ?_
    exact ⟨wkP_nilm, (wkP_refl _ rfl), trivial⟩
   ·rw [g7]
    replace hz3 := of_bif_f hz3 g7
    refine go_run' ttok 2 rfl ?_
    refine go_lenT encTProduct c ttok rfl rfl rfl rfl rfl rfl ?_
    refine go_run' ttok 2 rfl (go_nil nd (then_norm ?_))
    refine awp_cond (b := (decide (((c.length : Nat) : Int) ≤ e))) rfl (fun c11 => ?_) (fun c11 => ?_)
    ·replace hz3 := of_bif_t hz3 c11
     refine awp_seq (awp_go hmix (go_run' ttok 2 rfl (go_nil nd (then_norm (awp_ret (then_ret (block_ret (then_ret ?_))))))))
     obtain ⟨t2, hn12, hq⟩ := of_mapr' hz3
     subst hq
     have hq : t2 = _ := hk4
     subst hq
     refine then_ret (block_ret ?_)
     obtain ⟨t3, hn13, hq⟩ := of_mapl' hn12
     subst hq
     have hq := of_inl h
     replace hq := of_some hq
     subst hq
     refine then_ret ?_
     have e14 := of_some hn13
     subst e14
     refine ret_ret ?_
     refine fin0 ttok rfl rfl ?_
     exact ⟨wkP_nilm, (wkP_refl _ rfl), trivial⟩
    ·replace hz3 := of_bif_f hz3 c11
     refine awp_skip (then_norm (awp_seq (awp_go hmix (go_run' ttok 2 rfl ?_))))
     obtain ⟨e1, hv15, hz3⟩ := of_obind hz3
     refine go_indexT encTProduct c e e1 hv15 ttok rfl rfl rfl rfl rfl rfl rfl rfl rfl ?_
     refine go_run' ttok 1 rfl ?_
     obtain ⟨gv, hv16, hz3⟩ := of_let hz3
     refine go_call fn47 (product_Green_w e1 gv hv16) rfl rfl rfl rfl rfl rfl rfl ?_
     refine go_run' ttok 5 rfl (go_nil nd (then_norm (awp_seq (awp_seq (awp_go hmix (go_run' ttok 4 rfl ?_))))))
     refine go_gcase rfl rfl rfl (fun g17 => ?_) (fun g17 => ?_)
     ·rw [g17]
      replace hz3 := of_bif_t hz3 g17
      refine go_run' ttok 9 rfl (go_nil nd (then_norm ?_))
      refine awp_cond rfl (fun tt0 => ?_) (fun h => by cases h)
      clear tt0
      refine awp_seq (awp_go hmix (go_run' ttok 2 rfl (go_nil nd (then_norm (awp_ret (then_ret (block_ret (then_ret ?_))))))))
      obtain ⟨t4, hn18, hq⟩ := of_mapr' hz3
      subst hq
      have hq : t4 = _ := hk4
      subst hq
      refine then_ret (block_ret ?_)
      obtain ⟨t5, hn19, hq⟩ := of_mapl' hn18
      subst hq
      have hq := of_inl h
      replace hq := of_some hq
      subst hq
      refine then_ret ?_
      have e20 := of_some hn19
      subst e20
      refine ret_ret ?_
      refine fin0 ttok rfl rfl ?_
      exact ⟨wkP_nilm, (wkP_refl _ rfl), trivial⟩
     ·rw [g17]
      replace hz3 := of_bif_f hz3 g17
      refine go_run' ttok 2 rfl ?_
      obtain ⟨e2, hv21, hz3⟩ := of_obind hz3
      refine go_indexT encTProduct c e e2 hv21 ttok rfl rfl rfl rfl rfl rfl rfl rfl rfl ?_
      refine go_run' ttok 3 rfl ?_
      obtain ⟨cv, hv22, hz3⟩ := of_obind hz3
      refine go_call fn71 (slices_Contains___int_int__w e2.Lengths length cv hv22) rfl rfl rfl rfl rfl rfl rfl ?_
      refine go_run' ttok 2 rfl (go_nil nd (then_norm ?_))
      refine awp_cond (b := (!cv)) rfl (fun c23 => ?_) (fun c23 => ?_)
      ·replace hz3 := of_bif_t hz3 c23
       refine awp_seq (awp_go hmix (go_run' ttok 2 rfl (go_nil nd (then_norm (awp_ret (then_ret (block_ret (then_ret ?_))))))))
       obtain ⟨t6, hn24, hq⟩ := of_mapr' hz3
       subst hq
       have hq : t6 = _ := hk4
       subst hq
       refine then_ret (block_ret ?_)
       obtain ⟨t7, hn25, hq⟩ := of_mapl' hn24
       subst hq
       have hq := of_inl h
       replace hq := of_some hq
       subst hq
       refine then_ret ?_
       have e26 := of_some hn25
       subst e26
       refine ret_ret ?_
       refine fin0 ttok rfl rfl ?_
       exact ⟨wkP_nilm, (wkP_refl _ rfl), trivial⟩
      ·replace hz3 := of_bif_f hz3 c23
       refine awp_skip (then_norm (awp_go hmix (go_run' ttok 3 rfl ?_)))
       obtain ⟨l2, hv27, hz3⟩ := of_obind hz3
       refine go_appT I l1 ([gv.1]) l2 hv27 (fun _ => rfl) (by first | rfl | (simp [setI]; done) | omega | (dsimp only; omega) | (simp [setI]; omega)) (by first | rfl | (simp [setI]; done) | omega | (dsimp only; omega) | (simp [setI]; omega)) ttok rfl rfl rfl rfl rfl rfl rfl rfl rfl rfl rfl rfl rfl rfl rfl rfl rfl ?_
       refine go_run' ttok 1 rfl (go_nil nd (block_norm (then_norm (awp_go hmix (go_run' ttok 2 rfl (go_nil nd ?_))))))
       have e28 := of_some hz3
       subst e28
       refine then_norm ⟨rfl, (l2, (W64 (vv + 1))), [(10, some 53)], ⟨rfl, rfl, rfl, rfl, rfl, ⟨⟨rfl, rfl, (by first | rfl | (simp [setI]; done) | omega | (dsimp only; omega) | (simp [setI]; omega))⟩, wkP_id _ rfl, trivial⟩, ⟨⟨_, rfl, rfl, rfl, wkX_map (enc := I) l2 (fun _ => rfl)⟩, trivial⟩⟩, hk4⟩
  ·replace hz3 := of_bif_f hz3 c5
   refine awp_exit (then_exit ?_)
   obtain ⟨t8, hn29, hq⟩ := of_mapr' hz3
   subst hq
   have hq : t8 = _ := hk4
   subst hq
   refine then_exit (block_here ?_)
   have e30 := of_some hn29
   refine then_norm ⟨rfl, l1, [(10, some 10)], ⟨rfl, rfl, rfl, rfl, rfl, ⟨⟨rfl, rfl, (by first | rfl | (simp [setI]; done) | omega | (dsimp only; omega) | (simp [setI]; omega))⟩, trivial⟩, ⟨⟨_, rfl, rfl, rfl, wkX_map (enc := I) l1 (fun _ => rfl)⟩, trivial⟩⟩, e30⟩
 ·intro l hw2
  subst hw2
  replace h := of_inr h
  refine awp_seq (awp_go hmix (go_run' ttok 3 rfl (go_nil nd (then_norm ?_))))
  refine awp_freezeM [9] [] [(10, some ⟨3, 1, l.map I⟩)] [] [(8, (encL I l))] [] rfl rfl rfl rfl rfl ⟨rfl, by decide, trivial⟩ ⟨(wkP_lend rfl (by first | rfl | (simp [setI]; done) | omega | (dsimp only; omega) | (simp [setI]; omega)) (fun _ => rfl)), trivial⟩ trivial ?_
  refine awp_ret ?_
  have e31 := of_some h
  subst e31
  refine ret_ret ?_
  refine fin0 ttok rfl rfl ?_
  exact wkP_refl _ rfl
noncomputable def resaw_thicknesses_cs1 (N : Nat) (c : (List TProduct)) (products : (List Int)) (width : Int) (length : Int) (l1 : (List Int)) (vv : Int) : Option (((List Int) × Int) ⊕ (((List Int) × Int) ⊕ (List Int))) :=
 (bif (decide (vv < ((products.length : Nat) : Int))) then (Option.bind (getI products vv) (fun e => (bif (decide (e < 0)) then some (Sum.inr (Sum.inl ([], 8))) else (bif (decide (((c.length : Nat) : Int) ≤ e)) then some (Sum.inr (Sum.inl ([], 8))) else (Option.bind (getI c e) (fun e1 => (letB (product_Green_g e1) (fun gv => (bif (gv.2 != width) then some (Sum.inr (Sum.inl ([], 20))) else (Option.bind (getI c e) (fun e2 => (Option.bind ((slices_Contains___int_int__c N) e2.Lengths length) (fun cv => (bif (!cv) then some (Sum.inr (Sum.inl ([], 20))) else (Option.bind (appO 8 l1 ([gv.1])) (fun l2 => some (Sum.inl (l2, (W64 (vv + 1)))))))))))))))))))) else some (Sum.inr (Sum.inr l1)))
theorem resaw_thicknesses_cs1_le (N : Nat) (c : (List TProduct)) (products : (List Int)) (width : Int) (length : Int) (l1 : (List Int)) (vv : Int) : OLe (resaw_thicknesses_cs1 N c products width length l1 vv) (resaw_thicknesses_s1 c products width length l1 vv) := by
 unfold resaw_thicknesses_cs1 resaw_thicknesses_s1
 repeat' (first | exact ole_rfl | exact slices_Contains___int_int__le _ _ _ | refine ole_bif ?_ ?_ | refine ole_bind ?_ (fun _ => ?_) | refine ole_let (fun _ => ?_) | refine ole_map ?_ | refine ole_elim (fun _ => ?_) (fun _ => ?_) | refine ole_loop (fun _ => ?_))
noncomputable def resaw_thicknesses_c (N : Nat) (c : (List TProduct)) (products : (List Int)) (width : Int) (length : Int) : Option ((List Int) × Int) :=
 (Option.bind ((iterX N (fun q => resaw_thicknesses_cs1 N c products width length q.1 q.2) ([], 0)) : Option (((List Int) × Int) ⊕ (List Int))) (Sum.elim (fun q => some q) (fun l => some (l, 0))))
theorem resaw_thicknesses_le (N : Nat) (c : (List TProduct)) (products : (List Int)) (width : Int) (length : Int) : OLe (resaw_thicknesses_c N c products width length) (resaw_thicknesses_g c products width length) := by
 unfold resaw_thicknesses_c resaw_thicknesses_g
 repeat' (first | exact ole_rfl | exact slices_Contains___int_int__le _ _ _ | exact resaw_thicknesses_cs1_le _ _ _ _ _ _ _ | refine ole_bif ?_ ?_ | refine ole_bind ?_ (fun _ => ?_) | refine ole_let (fun _ => ?_) | refine ole_map ?_ | refine ole_elim (fun _ => ?_) (fun _ => ?_) | refine ole_loop (fun _ => ?_))

/-- sawmill/resaw.with -/
noncomputable def resaw_with_g (b : Bx) (alongX : Bool) (s : Sp) : Bx :=
 (bif alongX then (⟨s, b.y, b.z⟩ : Bx) else (⟨b.x, s, b.z⟩ : Bx))
theorem resaw_with_w (b : Bx) (alongX : Bool) (s : Sp) (r : Bx) (h : resaw_with_g b alongX s = r) : Holds Try.prog 50 [(encBx b), (B alongX), (encSp s)] [] (encBx r) [] := by
 unfold resaw_with_g at h
 refine holds_fn Try.func50 rfl Try.ntmps50 rfl rfl rfl (fun lim => ?_)
 refine awp_seq (awp_go hmix (go_run' ttok 3 rfl (go_nil nd (then_norm (awp_seq (awp_seq (awp_go hmix (go_run' ttok 1 rfl (go_nil nd (then_norm ?_))))))))))
 refine awp_cond (b := alongX) rfl (fun c1 => ?_) (fun c1 => ?_)
 ·replace h := of_bif_t h c1
  refine awp_go hmix (go_run' ttok 3 rfl (go_nil nd (then_norm (awp_seq (awp_go hmix (go_run' ttok 2 rfl (go_nil nd (then_norm (awp_ret ?_)))))))))
  have e2 := h
  subst e2
  refine ret_ret ?_
  refine fin0 ttok rfl rfl ?_
  exact (wkP_refl _ rfl)
 ·replace h := of_bif_f h c1
  refine awp_go hmix (go_run' ttok 3 rfl (go_nil nd (then_norm (awp_seq (awp_go hmix (go_run' ttok 2 rfl (go_nil nd (then_norm (awp_ret ?_)))))))))
  have e3 := h
  subst e3
  refine ret_ret ?_
  refine fin0 ttok rfl rfl ?_
  exact (wkP_refl _ rfl)

/-- sawmill/resaw.Boards$1 -/
noncomputable def resaw_Boards_1_g (s : Sp) (p1 : TBoard) (p2 : Bool) (p3 : Int) : Bx :=
 (letB (resaw_with_g p1.Box p2 (⟨(W64 (p3 + s.a)), (W64 (p3 + s.b))⟩ : Sp)) (fun wv => wv))
theorem resaw_Boards_1_w (s : Sp) (p1 : TBoard) (p2 : Bool) (p3 : Int) (r : Bx) (h : resaw_Boards_1_g s p1 p2 p3 = r) : Holds Try.prog 49 [(encSp s), (.ref 1000 0 0), (.ref 1001 0 0), (.ref 1002 0 0)] [(1000, some ⟨44, 18, [(encTBoard p1)]⟩), (1001, some ⟨4, 1, [(B p2)]⟩), (1002, some ⟨3, 1, [(I p3)]⟩)] (encBx r) [(1000, some ⟨44, 18, [(encTBoard p1)]⟩), (1001, some ⟨4, 1, [(B p2)]⟩), (1002, some ⟨3, 1, [(I p3)]⟩)] := by
 unfold resaw_Boards_1_g at h
 refine holds_fn Try.func49 rfl Try.ntmps49 rfl rfl rfl (fun lim => ?_)
 refine awp_seq (awp_go hmix (go_run' ttok 2 rfl (go_nil nd (then_norm (awp_seq (awp_go hmix (go_run' ttok 12 rfl ?_)))))))
 obtain ⟨wv, hv1, h⟩ := of_let h
 refine go_call fn50 (resaw_with_w p1.Box p2 (⟨(W64 (p3 + s.a)), (W64 (p3 + s.b))⟩ : Sp) wv hv1) rfl rfl rfl rfl rfl rfl rfl ?_
 refine go_run' ttok 1 rfl (go_nil nd (then_norm (awp_ret ?_)))
 have e2 := h
 subst e2
 refine ret_ret ?_
 exact finB [(1000, some 1000), (1001, some 1001), (1002, some 1002)] ttok rfl rfl rfl rfl (wkP_refl _ rfl) ⟨⟨_, rfl, rfl, rfl, .inl ⟨rfl, nr_one rfl⟩⟩, ⟨_, rfl, rfl, rfl, .inl ⟨rfl, nr_one rfl⟩⟩, ⟨_, rfl, rfl, rfl, .inl ⟨rfl, nr_one rfl⟩⟩, trivial⟩

/-- sawmill/span.Meet -/
noncomputable def span_Meet_g (a : Sp) (b : Sp) : Sp :=
 (bif (decide ((min a.b b.b) ≤ (max a.a b.a))) then (⟨0, 0⟩ : Sp) else (⟨(max a.a b.a), (min a.b b.b)⟩ : Sp))
theorem span_Meet_w (a : Sp) (b : Sp) (r : Sp) (h : span_Meet_g a b = r) : Holds Try.prog 90 [(encSp a), (encSp b)] [] (encSp r) [] := by
 unfold span_Meet_g at h
 refine holds_fn Try.func90 rfl Try.ntmps90 rfl rfl rfl (fun lim => ?_)
 refine awp_seq (awp_go hmix (go_run' ttok 3 rfl (go_nil nd (then_norm (awp_seq (awp_go hmix (go_run' ttok 13 rfl (go_nil nd (then_norm (awp_seq (awp_seq (awp_go hmix (go_run' ttok 5 rfl (go_nil nd (then_norm ?_)))))))))))))))
 refine awp_cond (b := (decide ((min a.b b.b) ≤ (max a.a b.a)))) rfl (fun c1 => ?_) (fun c1 => ?_)
 ·replace h := of_bif_t h c1
  refine awp_seq (awp_go hmix (go_run' ttok 2 rfl (go_nil nd (then_norm (awp_ret (then_ret ?_))))))
  have e2 := h
  subst e2
  refine ret_ret ?_
  refine fin0 ttok rfl rfl ?_
  exact (wkP_refl _ rfl)
 ·replace h := of_bif_f h c1
  refine awp_skip (then_norm (awp_seq (awp_go hmix (go_run' ttok 2 rfl (go_nil nd (then_norm (awp_ret ?_)))))))
  have e3 := h
  subst e3
  refine ret_ret ?_
  refine fin0 ttok rfl rfl ?_
  exact (wkP_refl _ rfl)

/-- sawmill/defect.meet -/
noncomputable def defect_meet_g (a : Bx) (b : Bx) : (Bx × Bool) :=
 (letB (span_Meet_g a.x b.x) (fun mv => (letB (span_Meet_g a.y b.y) (fun mv1 => (letB (span_Meet_g a.z b.z) (fun mv2 => (bif (defect_isEmpty_g mv) then ((⟨(⟨0, 0⟩ : Sp), (⟨0, 0⟩ : Sp), (⟨0, 0⟩ : Sp)⟩ : Bx), false) else (bif (defect_isEmpty_g mv1) then ((⟨(⟨0, 0⟩ : Sp), (⟨0, 0⟩ : Sp), (⟨0, 0⟩ : Sp)⟩ : Bx), false) else (bif (defect_isEmpty_g mv2) then ((⟨(⟨0, 0⟩ : Sp), (⟨0, 0⟩ : Sp), (⟨0, 0⟩ : Sp)⟩ : Bx), false) else ((⟨mv, mv1, mv2⟩ : Bx), true))))))))))
theorem defect_meet_w (a : Bx) (b : Bx) (r : (Bx × Bool)) (h : defect_meet_g a b = r) : Holds Try.prog 73 [(encBx a), (encBx b)] [] (.tup [(encBx r.1), (B r.2)]) [] := by
 unfold defect_meet_g at h
 refine holds_fn Try.func73 rfl Try.ntmps73 rfl rfl rfl (fun lim => ?_)
 refine awp_seq (awp_go hmix (go_run' ttok 4 rfl (go_nil nd (then_norm (awp_seq (awp_go hmix (go_run' ttok 4 rfl ?_)))))))
 obtain ⟨mv, hv1, h⟩ := of_let h
 refine go_call fn90 (span_Meet_w a.x b.x mv hv1) rfl rfl rfl rfl rfl rfl rfl ?_
 refine go_run' ttok 4 rfl ?_
 obtain ⟨mv1, hv2, h⟩ := of_let h
 refine go_call fn90 (span_Meet_w a.y b.y mv1 hv2) rfl rfl rfl rfl rfl rfl rfl ?_
 refine go_run' ttok 4 rfl ?_
 obtain ⟨mv2, hv3, h⟩ := of_let h
 refine go_call fn90 (span_Meet_w a.z b.z mv2 hv3) rfl rfl rfl rfl rfl rfl rfl ?_
 refine go_run' ttok 3 rfl ?_
 refine go_nil (fun _ => by kernel_rfl) ?_
 refine then_norm (awp_seq (awp_seq (awp_go hmix (go_run' ttok 2 rfl ?_))))
 refine go_call fn91 (defect_isEmpty_w mv _ rfl) rfl rfl rfl rfl rfl rfl rfl ?_
 refine go_run' ttok 1 rfl ?_
 refine go_gcase rfl rfl rfl (fun g4 => ?_) (fun g4 => ?_)
 ·rw [g4]
  replace h := of_bif_t h g4
  refine go_run' ttok 9 rfl (go_nil nd (then_norm ?_))
  refine awp_cond rfl (fun tt0 => ?_) (fun h => by cases h)
  clear tt0
  refine awp_seq (awp_go hmix (go_run' ttok 3 rfl (go_nil nd (then_norm (awp_ret (then_ret ?_))))))
  have e5 := h
  subst e5
  refine ret_ret ?_
  refine fin0 ttok rfl rfl ?_
  exact wkP_refl _ rfl
 ·rw [g4]
  replace h := of_bif_f h g4
  refine go_run' ttok 2 rfl ?_
  refine go_call fn91 (defect_isEmpty_w mv1 _ rfl) rfl rfl rfl rfl rfl rfl rfl ?_
  refine go_run' ttok 2 rfl ?_
  refine go_gcase rfl rfl rfl (fun g6 => ?_) (fun g6 => ?_)
  ·rw [g6]
   replace h := of_bif_t h g6
   refine go_run' ttok 4 rfl (go_nil nd (then_norm ?_))
   refine awp_cond rfl (fun tt0 => ?_) (fun h => by cases h)
   clear tt0
   refine awp_seq (awp_go hmix (go_run' ttok 3 rfl (go_nil nd (then_norm (awp_ret (then_ret ?_))))))
   have e7 := h
   subst e7
   refine ret_ret ?_
   refine fin0 ttok rfl rfl ?_
   exact wkP_refl _ rfl
  ·rw [g6]
   replace h := of_bif_f h g6
   refine go_run' ttok 2 rfl ?_
   refine go_call fn91 (defect_isEmpty_w mv2 _ rfl) rfl rfl rfl rfl rfl rfl rfl ?_
   refine go_run' ttok 1 rfl (go_nil nd (then_norm ?_))
   refine awp_cond (b := (defect_isEmpty_g mv2)) rfl (fun c8 => ?_) (fun c8 => ?_)
   ·replace h := of_bif_t h c8
    refine awp_seq (awp_go hmix (go_run' ttok 3 rfl (go_nil nd (then_norm (awp_ret (then_ret ?_))))))
    have e9 := h
    subst e9
    refine ret_ret ?_
    refine fin0 ttok rfl rfl ?_
    exact wkP_refl _ rfl
   ·replace h := of_bif_f h c8
    refine awp_skip (then_norm (awp_seq (awp_go hmix (go_run' ttok 3 rfl (go_nil nd (then_norm (awp_ret ?_)))))))
    have e10 := h
    subst e10
    refine ret_ret ?_
    refine fin0 ttok rfl rfl ?_
    exact wkP_refl _ rfl

/-- sawmill/defect.back -/
noncomputable def defect_back_g (s : Sp) (vat : Int) : Sp :=
 (⟨(W64 (s.a - vat)), (W64 (s.b - vat))⟩ : Sp)
theorem defect_back_w (s : Sp) (vat : Int) (r : Sp) (h : defect_back_g s vat = r) : Holds Try.prog 74 [(encSp s), (I vat)] [] (encSp r) [] := by
 unfold defect_back_g at h
 refine holds_fn Try.func74 rfl Try.ntmps74 rfl rfl rfl (fun lim => ?_)
 refine awp_seq (awp_go hmix (go_run' ttok 2 rfl (go_nil nd (then_norm (awp_seq (awp_go hmix (go_run' ttok 10 rfl (go_nil nd (then_norm (awp_ret ?_))))))))))
 have e1 := h
 subst e1
 refine ret_ret ?_
 refine fin0 ttok rfl rfl ?_
 exact (wkP_refl _ rfl)

noncomputable def defect_Clip_s1 (b : Bx) (vv : Int) : Option (Int ⊕ ((List Df) ⊕ Unit)) :=
 (bif (decide (vv < 3)) then (Option.bind (getI [b.x, b.y, b.z] vv) (fun e => (bif (!(defect_inside_g e (-1099511627776) 1099511627776)) then some (Sum.inr (Sum.inl ([]))) else some (Sum.inl (W64 (vv + 1)))))) else some (Sum.inr (Sum.inr ())))
noncomputable def defect_Clip_s2 (l : (List Df)) (b : Bx) (clipped1 : (List Df)) (vv1 : Int) : Option (((List Df) × Int) ⊕ (List Df)) :=
 (bif (decide (vv1 < ((l.length : Nat) : Int))) then (Option.bind (getI l vv1) (fun e1 => (letB (defect_meet_g e1.b b) (fun mv => (bif mv.2 then (letB (defect_back_g mv.1.x b.x.a) (fun bv => (letB (defect_back_g mv.1.y b.y.a) (fun bv1 => (letB (defect_back_g mv.1.z b.z.a) (fun bv2 => (Option.bind (appO 56 clipped1 ([(⟨e1.k, (⟨bv, bv1, bv2⟩ : Bx)⟩ : Df)])) (fun l1 => some (Sum.inl (l1, (W64 (vv1 + 1)))))))))))) else some (Sum.inl (clipped1, (W64 (vv1 + 1))))))))) else some (Sum.inr clipped1))
/-- sawmill/defect.Clip -/
noncomputable def defect_Clip_g (l : (List Df)) (b : Bx) : Option (List Df) :=
 (Option.bind (defect_Check_g l) (fun cv => (bif (cv != 0) then some ([]) else (Option.bind ((loopO (fun q => defect_Clip_s1 b q) 0) : Option ((List Df) ⊕ Unit)) (Sum.elim (fun q => some q) (fun _ => (Option.bind ((loopO (fun q => defect_Clip_s2 l b q.1 q.2) ([], 0)) : Option (List Df)) (fun clipped => some clipped))))))))
theorem defect_Clip_w (l : (List Df)) (b : Bx) (r : (List Df)) (h : defect_Clip_g l b = some r) : Holds Try.prog 51 [((encL encDf) l), (encBx b)] [] ((encL encDf) r) [] := by
 unfold defect_Clip_g at h
 refine holds_fn Try.func51 rfl Try.ntmps51 rfl rfl rfl (fun lim => ?_)
 refine awp_seq (awp_go hmix (go_run' ttok 2 rfl (go_nil nd (then_norm (awp_seq (awp_seq (awp_go hmix (go_run' ttok 1 rfl ?_))))))))
 obtain ⟨cv, hv1, h⟩ := of_obind h
 refine go_call fn68 (defect_Check_w l cv hv1) rfl rfl rfl rfl rfl rfl rfl ?_
 refine go_run' ttok 1 rfl (go_nil nd (then_norm ?_))
 refine awp_cond (b := (cv != 0)) rfl (fun c2 => ?_) (fun c2 => ?_)
 ·replace h := of_bif_t h c2
  refine awp_seq (awp_go hmix (go_run' ttok 1 rfl (go_nil nd (then_norm (awp_ret (then_ret ?_))))))
  have e3 := of_some h
  subst e3
  refine ret_ret ?_
  refine fin0 ttok rfl rfl ?_
  exact wkP_nilm
 ·replace h := of_bif_f h c2
  refine awp_skip (then_norm ?_)
  obtain ⟨y, hx4, h⟩ := of_obind h
  refine awp_seqJ (X := Unit) [0, 3] [3] (fun _ => []) (fun _ => []) (fun w => Sum.inr w = y) rfl rfl ?_ ?_
  ·skip
   refine awp_seq (awp_go hmix (go_run' ttok 8 rfl (go_nil nd (then_norm (awp_block ?_)))))
   refine awp_loopD (X := Int) (Y := ((List Df) ⊕ Unit)) [0, 3, 22] [3] (fun q => [(23, (I q))]) (fun q => []) (fun q => defect_Clip_s1 b q) 0 [(3, some 3)] hx4 ⟨rfl, rfl, rfl, rfl, rfl, ⟨wkP_id _ rfl, trivial⟩, trivial⟩ (fun vv vR vz hz6 hk7 => ?_)
   change defect_Clip_s1 b vv = _ at hz6
   unfold defect_Clip_s1 at hz6
   refine awp_seq (awp_go hmix (go_run' ttok 1 rfl (go_nil nd (then_norm (awp_seq ?_)))))
   refine awp_cond (b := (decide (vv < 3))) rfl (fun c8 => ?_) (fun c8 => ?_)
   ·replace hz6 := of_bif_t hz6 c8
    refine awp_skip (then_norm (awp_seq (awp_block (awp_seq (awp_go hmix ?_)))))
    obtain ⟨e, hv9, hz6⟩ := of_obind hz6
    refine go_indexVT encSp [b.x, b.y, b.z] vv e hv9 rfl (by intro j el hj; match j, hj with | 0, hj => (cases hj; rfl) | 1, hj => (cases hj; rfl) | 2, hj => (cases hj; rfl) | (_ + 3), hj => (exact absurd hj (by simp))) ttok rfl rfl rfl rfl rfl rfl rfl rfl ?_
    refine go_run' ttok 2 rfl (go_nil nd (then_norm (awp_seq (awp_go hmix (go_run' ttok 1 rfl ?_)))))
    refine go_call fn72 (defect_inside_w e (-1099511627776) 1099511627776 _ rfl) rfl rfl rfl rfl rfl rfl rfl ?_
    refine go_run' ttok 1 rfl (go_nil nd (then_norm ?_))
    refine awp_cond (b := (!(defect_inside_g e (-1099511627776) 1099511627776))) rfl (fun c10 => ?_) (fun c10 => ?_)
    ·replace hz6 := of_bif_t hz6 c10
     refine awp_seq (awp_go hmix (go_run' ttok 1 rfl (go_nil nd (then_norm (awp_ret (block_ret (then_ret ?_)))))))
     obtain ⟨t, hn11, hq⟩ := of_mapr' hz6
     subst hq
     have hq : t = _ := hk7
     subst hq
     refine then_ret (block_ret ?_)
     obtain ⟨t1, hn12, hq⟩ := of_mapl' hn11
     subst hq
     have hq := of_inl h
     replace hq := of_some hq
     subst hq
     refine then_ret ?_
     have e13 := of_some hn12
     subst e13
     refine ret_ret ?_
     refine fin0 ttok rfl rfl ?_
     exact wkP_nilm
    ·replace hz6 := of_bif_f hz6 c10
     refine awp_skip (block_norm (then_norm (awp_go hmix (go_run' ttok 2 rfl (go_nil nd ?_)))))
     have e14 := of_some hz6
     subst e14
     refine then_norm ⟨rfl, (W64 (vv + 1)), [(3, some 3)], ⟨rfl, rfl, rfl, rfl, rfl, ⟨wkP_id _ rfl, trivial⟩, trivial⟩, hk7⟩
   ·replace hz6 := of_bif_f hz6 c8
    refine awp_exit (then_exit ?_)
    obtain ⟨t2, hn15, hq⟩ := of_mapr' hz6
    subst hq
    have hq : t2 = _ := hk7
    subst hq
    refine then_exit (block_here ?_)
    have e16 := of_some hn15
    refine then_norm ⟨rfl, (), [(3, some 3)], ⟨rfl, rfl, rfl, rfl, rfl, trivial, trivial⟩, e16⟩
  ·intro w hw5
   subst hw5
   replace h := of_inr h
   refine awp_seq (awp_go hmix (go_run' ttok 1 rfl (go_nil nd (then_norm ?_))))
   obtain ⟨y1, hx17, h⟩ := of_obind h
   refine awp_seqJ (X := (List Df)) [] [] (fun w1 => [(7, (.arr 7 0 w1.length))]) (fun w1 => [(7, some ⟨65, 7, w1.map encDf⟩)]) (fun w1 => w1 = y1) rfl rfl ?_ ?_
   ·skip
    refine awp_seq (awp_go hmix (go_run' ttok 1 rfl ?_))
    refine go_lenT encDf l ttok rfl rfl rfl rfl rfl rfl ?_
    refine go_run' ttok 1 rfl (go_nil nd (then_norm (awp_block ?_)))
    refine awp_loopD (X := ((List Df) × Int)) (Y := (List Df)) [3, 30, 31] [3] (fun q => [(7, (.arr 7 0 q.1.length)), (32, (I q.2))]) (fun q => [(7, some ⟨65, 7, q.1.map encDf⟩)]) (fun q => defect_Clip_s2 l b q.1 q.2) ([], 0) [(7, none), (3, some 3)] hx17 ⟨rfl, rfl, rfl, rfl, rfl, ⟨⟨rfl, rfl, (by first | rfl | (simp [setI]; done) | omega | (dsimp only; omega) | (simp [setI]; omega))⟩, wkP_id _ rfl, trivial⟩, ⟨rfl, trivial⟩⟩ (fun x vR1 vz1 hz19 hk20 => ?_)
    obtain ⟨clipped1, vv1⟩ := x
    change defect_Clip_s2 l b clipped1 vv1 = _ at hz19
    unfold defect_Clip_s2 at hz19
    refine awp_seq (awp_go hmix (go_run' ttok 1 rfl (go_nil nd (then_norm (awp_seq ?_)))))
    refine awp_cond (b := (decide (vv1 < ((l.length : Nat) : Int)))) rfl (fun c21 => ?_) (fun c21 => ?_)
    ·replace hz19 := of_bif_t hz19 c21
     refine awp_skip (then_norm (awp_seq (awp_block (awp_seq (awp_go hmix ?_)))))
     obtain ⟨e1, hv22, hz19⟩ := of_obind hz19
     refine go_indexT encDf l vv1 e1 hv22 ttok rfl rfl rfl rfl rfl rfl rfl rfl rfl ?_
     refine go_run' ttok 3 rfl (go_nil nd (then_norm (awp_seq (awp_go hmix (go_run' ttok 3 rfl ?_)))))
     obtain ⟨mv, hv23, hz19⟩ := of_let hz19
     refine go_call fn73 (defect_meet_w e1.b b mv hv23) rfl rfl rfl rfl rfl rfl rfl ?_
     refine go_run' ttok 6 rfl (go_nil nd (then_norm (awp_seq (awp_go hmix (go_run' ttok 1 rfl (go_nil nd (then_norm ?_)))))))
     refine awp_cond (b := mv.2) rfl (fun c24 => ?_) (fun c24 => ?_)
     ·replace hz19 := of_bif_t hz19 c24
      refine awp_seq (awp_go hmix (go_run' ttok 5 rfl ?_))
      obtain ⟨bv, hv25, hz19⟩ := of_let hz19
      refine go_call fn74 (defect_back_w mv.1.x b.x.a bv hv25) rfl rfl rfl rfl rfl rfl rfl ?_
      refine go_run' ttok 5 rfl ?_
      obtain ⟨bv1, hv26, hz19⟩ := of_let hz19
      refine go_call fn74 (defect_back_w mv.1.y b.y.a bv1 hv26) rfl rfl rfl rfl rfl rfl rfl ?_
      refine go_run' ttok 5 rfl ?_
      obtain ⟨bv2, hv27, hz19⟩ := of_let hz19
      refine go_call fn74 (defect_back_w mv.1.z b.z.a bv2 hv27) rfl rfl rfl rfl rfl rfl rfl ?_
      refine go_run' ttok 3 rfl ?_
      refine go_nil (fun _ => by kernel_rfl) ?_
      refine then_norm (awp_go hmix (go_run' ttok 6 rfl ?_))
      obtain ⟨l1, hv28, hz19⟩ := of_obind hz19
      refine go_appT encDf clipped1 ([(⟨e1.k, (⟨bv, bv1, bv2⟩ : Bx)⟩ : Df)]) l1 hv28 (fun _ => rfl) (by first | rfl | (simp [setI]; done) | omega | (dsimp only; omega) | (simp [setI]; omega)) (by first | rfl | (simp [setI]; done) | omega | (dsimp only; omega) | (simp [setI]; omega)) ttok rfl rfl rfl rfl rfl rfl rfl rfl rfl rfl rfl rfl rfl rfl rfl rfl rfl ?_
      refine go_run' ttok 1 rfl (go_nil nd (block_norm (then_norm (awp_go hmix (go_run' ttok 2 rfl (go_nil nd ?_))))))
      have e29 := of_some hz19
      subst e29
      refine then_norm ⟨rfl, (l1, (W64 (vv1 + 1))), [(7, some 69), (3, some 3)], ⟨rfl, rfl, rfl, rfl, rfl, ⟨⟨rfl, rfl, (by first | rfl | (simp [setI]; done) | omega | (dsimp only; omega) | (simp [setI]; omega))⟩, wkP_id _ rfl, trivial⟩, ⟨⟨_, rfl, rfl, rfl, wkX_map (enc := encDf) l1 (fun _ => rfl)⟩, trivial⟩⟩, hk20⟩
     ·replace hz19 := of_bif_f hz19 c24
      refine awp_skip (block_norm (then_norm (awp_go hmix (go_run' ttok 2 rfl (go_nil nd ?_)))))
      have e30 := of_some hz19
      subst e30
      refine then_norm ⟨rfl, (clipped1, (W64 (vv1 + 1))), [(7, some 7), (3, some 3)], ⟨rfl, rfl, rfl, rfl, rfl, ⟨⟨rfl, rfl, (by first | rfl | (simp [setI]; done) | omega | (dsimp only; omega) | (simp [setI]; omega))⟩, wkP_id _ rfl, trivial⟩, ⟨⟨_, rfl, rfl, rfl, wkX_map (enc := encDf) clipped1 (fun _ => rfl)⟩, trivial⟩⟩, hk20⟩
    ·replace hz19 := of_bif_f hz19 c21
     refine awp_exit (then_exit ?_)
     obtain ⟨t3, hn31, hq⟩ := of_mapr' hz19
     subst hq
     have hq : t3 = _ := hk20
     subst hq
     refine then_exit (block_here ?_)
     have e32 := of_some hn31
     refine then_norm ⟨rfl, clipped1, [(7, some 7)], ⟨rfl, rfl, rfl, rfl, rfl, ⟨⟨rfl, rfl, (by first | rfl | (simp [setI]; done) | omega | (dsimp only; omega) | (simp [setI]; omega))⟩, trivial⟩, ⟨⟨_, rfl, rfl, rfl, wkX_map (enc := encDf) clipped1 (fun _ => rfl)⟩, trivial⟩⟩, e32⟩
   ·intro clipped hw18
    subst hw18
    refine awp_seq (awp_go hmix (go_run' ttok 2 rfl (go_nil nd (then_norm ?_))))
    refine awp_freezeM [] [] [(7, some ⟨65, 7, clipped.map encDf⟩)] [] [(4, (encL encDf clipped))] [] rfl rfl rfl rfl rfl ⟨rfl, by decide, trivial⟩ ⟨(wkP_lend rfl (by first | rfl | (simp [setI]; done) | omega | (dsimp only; omega) | (simp [setI]; omega)) (fun _ => rfl)), trivial⟩ trivial ?_
    refine awp_ret ?_
    have e33 := of_some h
    subst e33
    refine ret_ret ?_
    refine fin0 ttok rfl rfl ?_
    exact (wkP_refl _ rfl)
noncomputable def defect_Clip_cs1 (N : Nat) (b : Bx) (vv : Int) : Option (Int ⊕ ((List Df) ⊕ Unit)) :=
 (bif (decide (vv < 3)) then (Option.bind (getI [b.x, b.y, b.z] vv) (fun e => (bif (!(defect_inside_g e (-1099511627776) 1099511627776)) then some (Sum.inr (Sum.inl ([]))) else some (Sum.inl (W64 (vv + 1)))))) else some (Sum.inr (Sum.inr ())))
theorem defect_Clip_cs1_le (N : Nat) (b : Bx) (vv : Int) : OLe (defect_Clip_cs1 N b vv) (defect_Clip_s1 b vv) := by
 unfold defect_Clip_cs1 defect_Clip_s1
 repeat' (first | exact ole_rfl | exact defect_Check_le _ _ | refine ole_bif ?_ ?_ | refine ole_bind ?_ (fun _ => ?_) | refine ole_let (fun _ => ?_) | refine ole_map ?_ | refine ole_elim (fun _ => ?_) (fun _ => ?_) | refine ole_loop (fun _ => ?_))
noncomputable def defect_Clip_cs2 (N : Nat) (l : (List Df)) (b : Bx) (clipped1 : (List Df)) (vv1 : Int) : Option (((List Df) × Int) ⊕ (List Df)) :=
 (bif (decide (vv1 < ((l.length : Nat) : Int))) then (Option.bind (getI l vv1) (fun e1 => (letB (defect_meet_g e1.b b) (fun mv => (bif mv.2 then (letB (defect_back_g mv.1.x b.x.a) (fun bv => (letB (defect_back_g mv.1.y b.y.a) (fun bv1 => (letB (defect_back_g mv.1.z b.z.a) (fun bv2 => (Option.bind (appO 56 clipped1 ([(⟨e1.k, (⟨bv, bv1, bv2⟩ : Bx)⟩ : Df)])) (fun l1 => some (Sum.inl (l1, (W64 (vv1 + 1)))))))))))) else some (Sum.inl (clipped1, (W64 (vv1 + 1))))))))) else some (Sum.inr clipped1))
theorem defect_Clip_cs2_le (N : Nat) (l : (List Df)) (b : Bx) (clipped1 : (List Df)) (vv1 : Int) : OLe (defect_Clip_cs2 N l b clipped1 vv1) (defect_Clip_s2 l b clipped1 vv1) := by
 unfold defect_Clip_cs2 defect_Clip_s2
 repeat' (first | exact ole_rfl | exact defect_Check_le _ _ | exact defect_Clip_cs1_le _ _ _ | refine ole_bif ?_ ?_ | refine ole_bind ?_ (fun _ => ?_) | refine ole_let (fun _ => ?_) | refine ole_map ?_ | refine ole_elim (fun _ => ?_) (fun _ => ?_) | refine ole_loop (fun _ => ?_))
noncomputable def defect_Clip_c (N : Nat) (l : (List Df)) (b : Bx) : Option (List Df) :=
 (Option.bind ((defect_Check_c N) l) (fun cv => (bif (cv != 0) then some ([]) else (Option.bind ((iterX N (fun q => defect_Clip_cs1 N b q) 0) : Option ((List Df) ⊕ Unit)) (Sum.elim (fun q => some q) (fun _ => (Option.bind ((iterX N (fun q => defect_Clip_cs2 N l b q.1 q.2) ([], 0)) : Option (List Df)) (fun clipped => some clipped))))))))
theorem defect_Clip_le (N : Nat) (l : (List Df)) (b : Bx) : OLe (defect_Clip_c N l b) (defect_Clip_g l b) := by
 unfold defect_Clip_c defect_Clip_g
 repeat' (first | exact ole_rfl | exact defect_Check_le _ _ | exact defect_Clip_cs1_le _ _ _ | exact defect_Clip_cs2_le _ _ _ _ _ | refine ole_bif ?_ ?_ | refine ole_bind ?_ (fun _ => ?_) | refine ole_let (fun _ => ?_) | refine ole_map ?_ | refine ole_elim (fun _ => ?_) (fun _ => ?_) | refine ole_loop (fun _ => ?_))

/-- sawmill/span.size -/
noncomputable def span_size_g (s : Sp) : Int :=
 (bif (decide (s.b ≤ s.a)) then 0 else (WU64 ((WU64 s.b) - (WU64 s.a))))
theorem span_size_w (s : Sp) (r : Int) (h : span_size_g s = r) : Holds Try.prog 76 [(encSp s)] [] (U64 r) [] := by
 unfold span_size_g at h
 refine holds_fn Try.func76 rfl Try.ntmps76 rfl rfl rfl (fun lim => ?_)
 refine awp_seq (awp_go hmix (go_run' ttok 2 rfl (go_nil nd (then_norm (awp_seq (awp_seq (awp_go hmix (go_run' ttok 5 rfl (go_nil nd (then_norm ?_))))))))))
 refine awp_cond (b := (decide (s.b ≤ s.a))) rfl (fun c1 => ?_) (fun c1 => ?_)
 ·replace h := of_bif_t h c1
  refine awp_seq (awp_go hmix (go_run' ttok 1 rfl (go_nil nd (then_norm (awp_ret (then_ret ?_))))))
  have e2 := h
  subst e2
  refine ret_ret ?_
  refine fin0 ttok rfl rfl ?_
  exact (wkP_refl _ rfl)
 ·replace h := of_bif_f h c1
  refine awp_skip (then_norm (awp_seq (awp_go hmix (go_run' ttok 8 rfl (go_nil nd (then_norm (awp_ret ?_)))))))
  have e3 := h
  subst e3
  refine ret_ret ?_
  refine fin0 ttok rfl rfl ?_
  exact (wkP_refl _ rfl)

/-- sawmill/span.limited -/
noncomputable def span_limited_g (n : Int) : Int :=
 (W64 (min n 9223372036854775807))
theorem span_limited_w (n : Int) (r : Int) (h : span_limited_g n = r) : Holds Try.prog 75 [(U64 n)] [] (I r) [] := by
 unfold span_limited_g at h
 refine holds_fn Try.func75 rfl Try.ntmps75 rfl rfl rfl (fun lim => ?_)
 refine awp_seq (awp_go hmix (go_run' ttok 1 rfl (go_nil nd (then_norm (awp_seq (awp_go hmix (go_run' ttok 4 rfl (go_nil nd (then_norm (awp_ret ?_))))))))))
 have e1 := h
 subst e1
 refine ret_ret ?_
 refine fin0 ttok rfl rfl ?_
 exact (wkP_refl _ rfl)

/-- sawmill/span.Len -/
noncomputable def span_Len_g (s : Sp) : Int :=
 (span_limited_g (span_size_g s))
theorem span_Len_w (s : Sp) (r : Int) (h : span_Len_g s = r) : Holds Try.prog 52 [(encSp s)] [] (I r) [] := by
 unfold span_Len_g at h
 refine holds_fn Try.func52 rfl Try.ntmps52 rfl rfl rfl (fun lim => ?_)
 refine awp_seq (awp_go hmix (go_run' ttok 2 rfl (go_nil nd (then_norm (awp_seq (awp_go hmix (go_run' ttok 1 rfl ?_)))))))
 refine go_call fn76 (span_size_w s _ rfl) rfl rfl rfl rfl rfl rfl rfl ?_
 refine go_call fn75 (span_limited_w (span_size_g s) _ rfl) rfl rfl rfl rfl rfl rfl rfl ?_
 refine go_run' ttok 1 rfl (go_nil nd (then_norm (awp_ret ?_)))
 have e1 := h
 subst e1
 refine ret_ret ?_
 refine fin0 ttok rfl rfl ?_
 exact (wkP_refl _ rfl)

end Go.Proofs.Ytcimnopodmnmmaa
