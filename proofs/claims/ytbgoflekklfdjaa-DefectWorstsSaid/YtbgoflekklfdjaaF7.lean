/- F7: what functions of the program compute (written by gen.py). -/
import Derived.Test.YtbgoflekklfdjaaF6
import Derived.KernelRfl
namespace Go.Proofs.Ytbgoflekklfdjaa
open Go Go.Ab
set_option linter.unusedSimpArgs false
set_option linter.unusedVariables false

theorem turn_len (l : List Df) (q : Int) (h : l.length ≤ 9223372036854775807) : (turnD l q).length ≤ 9223372036854775807 := by
  unfold turnD
  split <;> simp <;> omega
theorem clip_len (l : List Df) (b : Bx) (h : l.length ≤ 9223372036854775807) : (clipD l b).length ≤ 9223372036854775807 := by
  unfold clipD
  split
  · exact Nat.le_trans (List.length_filterMap_le _ _) h
  · simp


theorem defectChecks_h (l : List Df) (n : Int) (hl : l.length ≤ 9223372036854775807) (ho : Oks l) : Holds Try.prog 8 [.sl (l.map encDf), I n] [] (B true) [] := by
  refine holds_fn Try.func8 rfl Try.ntmps8 rfl rfl rfl ?_
  refine awp_seq ?_
  refine awp_go hmix ?_
  refine go_run' ttok 1 rfl ?_
  refine go_nil nd ?_
  refine then_norm ?_
  refine awp_seq ?_
  refine awp_seq ?_
  refine awp_go hmix ?_
  refine go_run' ttok 1 rfl ?_
  refine go_call fn29 (few13_h _) rfl rfl rfl rfl rfl rfl rfl ?_
  refine go_run' ttok 1 rfl ?_
  refine go_nil nd ?_
  refine then_norm ?_
  refine awp_cond rfl (fun c8 => ?_) (fun c8 => ?_)
  · skip
    refine awp_seq ?_
    refine awp_go hmix ?_
    refine go_call fn30 (awake13_h) rfl rfl rfl rfl rfl rfl rfl ?_
    refine go_run' ttok 1 rfl ?_
    refine go_nil nd ?_
    refine then_norm ?_
    refine awp_ret ?_
    refine then_ret ?_
    refine ret_ret ?_
    refine fin0 ttok rfl rfl ?_
    exact rfl
  · skip
    refine awp_skip ?_
    refine then_norm ?_
    refine awp_seq ?_
    refine awp_seq ?_
    refine awp_go hmix ?_
    refine go_run' ttok 1 rfl ?_
    refine go_nil nd ?_
    refine then_norm ?_
    refine awp_block ?_
    refine awp_loopK (X := {k : Nat // k ≤ l.length}) [0, 1] [] (fun x => [(5, I x.1)]) (fun x => []) (fun x => l.length - x.1) ⟨0, Nat.zero_le _⟩ [] ⟨rfl, rfl, rfl, rfl, rfl, ⟨⟨rfl, rfl⟩, trivial⟩, trivial⟩ (fun x => ?_)
    obtain ⟨k, hk⟩ := x
    dsimp only
    refine awp_seq ?_
    refine awp_seq ?_
    refine awp_go hmix ?_
    refine go_run' ttok 4 rfl ?_
    refine go_nil nd ?_
    refine then_norm ?_
    refine awp_cond rfl (fun c13 => ?_) (fun c13 => ?_)
    · skip
      have hk' : k < l.length := by simpa using c13
      have hok := ho.at hk'
      refine awp_skip ?_
      refine then_norm ?_
      refine awp_seq ?_
      refine awp_block ?_
      refine awp_seq ?_
      refine awp_go hmix ?_
      refine go_run' ttok 2 rfl ?_
      refine go_index ttok (Int.natCast_nonneg _) (ev := encDf l[k]) (get_map hk') rfl rfl rfl rfl rfl rfl rfl rfl rfl ?_
      refine go_run' ttok 1 rfl ?_
      refine go_call fn31 (dsize_h _ (by assumption)) rfl rfl rfl rfl rfl rfl rfl ?_
      refine go_run' ttok 2 rfl ?_
      refine go_index ttok (Int.natCast_nonneg _) (ev := encDf l[k]) (get_map hk') rfl rfl rfl rfl rfl rfl rfl rfl rfl ?_
      refine go_run' ttok 1 rfl ?_
      refine go_call fn32 (rdsize_h _ (by assumption)) rfl rfl rfl rfl rfl rfl rfl ?_
      refine go_run' ttok 1 rfl ?_
      refine go_nil (fun _ => by kernel_rfl) ?_
      refine then_norm ?_
      refine awp_cond rfl (fun c26 => ?_) (fun c26 => ?_)
      · skip
        simp at c26 --STOP
      · skip
        refine awp_skip ?_
        refine block_norm ?_
        refine then_norm ?_
        refine awp_go hmix ?_
        refine go_run' ttok 3 rfl ?_
        refine go_nil nd ?_
        refine then_norm ⟨rfl, ⟨k + 1, hk'⟩, [], ⟨rfl, rfl, rfl, rfl, rfl, ⟨⟨rfl, ?_⟩, trivial⟩, trivial⟩, ?_⟩
        · rw [w64_id' (by omega) (by omega)]
          rfl
        · dsimp only; omega
    · skip
      have hk' : k = l.length := by simp at c13; omega
      refine awp_exit ?_
      refine then_exit ?_
      refine then_exit ?_
      refine block_here ?_
      refine then_norm ?_
      refine awp_seq ?_
      refine awp_go hmix ?_
      refine go_run' ttok 1 rfl ?_
      refine go_call fn33 (dcheckL_h _ (by assumption)) rfl rfl rfl rfl rfl rfl rfl ?_
      refine go_run' ttok 1 rfl ?_
      refine go_call fn26 (rcheckL_h _ (by assumption)) rfl rfl rfl rfl rfl rfl rfl ?_
      refine go_run' ttok 2 rfl ?_
      refine go_gcase rfl rfl rfl (fun g32 => ?_) (fun g32 => ?_)
      · rw [g32]
        refine go_run' ttok 2 rfl ?_
        refine go_call fn34 (count_h _ _ (by assumption)) rfl rfl rfl rfl rfl rfl rfl ?_
        refine go_run' ttok 2 rfl ?_
        refine go_call fn35 (rcount_h _ _ (by assumption)) rfl rfl rfl rfl rfl rfl rfl ?_
        refine go_run' ttok 3 rfl ?_
        refine go_gcase rfl rfl rfl (fun g41 => ?_) (fun g41 => ?_)
        · rw [g41]
          refine go_run' ttok 2 rfl ?_
          refine go_call fn36 (largest_h _ _ (by assumption) (by assumption)) rfl rfl rfl rfl rfl rfl rfl ?_
          refine go_run' ttok 2 rfl ?_
          refine go_call fn37 (rlargest_h _ _ (by assumption) (by assumption)) rfl rfl rfl rfl rfl rfl rfl ?_
          refine go_run' ttok 3 rfl ?_
          refine go_gcase rfl rfl rfl (fun g50 => ?_) (fun g50 => ?_)
          · rw [g50]
            refine go_call fn30 (awake13_h) rfl rfl rfl rfl rfl rfl rfl ?_
            refine go_run' ttok 2 rfl ?_
            refine go_nil nd ?_
            refine then_norm ?_
            refine awp_ret ?_
            refine ret_ret ?_
            refine fin0 ttok rfl rfl ?_
            exact rfl
          · rw [g50]
            simp at g50 --STOP
        · rw [g41]
          simp at g41 --STOP
      · rw [g32]
        simp at g32 --STOP

theorem defectClips_h (l : List Df) (b : Bx) (hl : l.length ≤ 9223372036854775807) (ho : Oks l) : Holds Try.prog 9 [.sl (l.map encDf), encBx b] [] (B true) [] := by
  refine holds_fn Try.func9 rfl Try.ntmps9 rfl rfl rfl ?_
  refine awp_seq ?_
  refine awp_go hmix ?_
  refine go_run' ttok 2 rfl ?_
  refine go_nil nd ?_
  refine then_norm ?_
  refine awp_seq ?_
  refine awp_seq ?_
  refine awp_go hmix ?_
  refine go_run' ttok 1 rfl ?_
  refine go_call fn29 (few13_h _) rfl rfl rfl rfl rfl rfl rfl ?_
  refine go_run' ttok 1 rfl ?_
  refine go_nil nd ?_
  refine then_norm ?_
  refine awp_cond rfl (fun c8 => ?_) (fun c8 => ?_)
  · skip
    refine awp_seq ?_
    refine awp_go hmix ?_
    refine go_call fn30 (awake13_h) rfl rfl rfl rfl rfl rfl rfl ?_
    refine go_run' ttok 1 rfl ?_
    refine go_nil nd ?_
    refine then_norm ?_
    refine awp_ret ?_
    refine then_ret ?_
    refine ret_ret ?_
    refine fin0 ttok rfl rfl ?_
    exact rfl
  · skip
    refine awp_skip ?_
    refine then_norm ?_
    refine awp_seq ?_
    refine awp_seq ?_
    refine awp_go hmix ?_
    refine go_run' ttok 1 rfl ?_
    refine go_nil nd ?_
    refine then_norm ?_
    refine awp_block ?_
    refine awp_loopK (X := {k : Nat // k ≤ l.length}) [0, 3] [3] (fun x => [(5, I x.1)]) (fun x => []) (fun x => l.length - x.1) ⟨0, Nat.zero_le _⟩ [(3, some 3)] ⟨rfl, rfl, rfl, rfl, rfl, ⟨⟨rfl, rfl⟩, trivial⟩, trivial⟩ (fun x => ?_)
    obtain ⟨k, hk⟩ := x
    dsimp only
    refine awp_seq ?_
    refine awp_seq ?_
    refine awp_go hmix ?_
    refine go_run' ttok 4 rfl ?_
    refine go_nil nd ?_
    refine then_norm ?_
    refine awp_cond rfl (fun c13 => ?_) (fun c13 => ?_)
    · skip
      have hk' : k < l.length := by simpa using c13
      refine awp_skip ?_
      refine then_norm ?_
      refine awp_seq ?_
      refine awp_block ?_
      refine awp_seq ?_
      refine awp_go hmix ?_
      refine go_run' ttok 2 rfl ?_
      refine go_index ttok (Int.natCast_nonneg _) (ev := encDf l[k]) (get_map hk') rfl rfl rfl rfl rfl rfl rfl rfl rfl ?_
      refine go_run' ttok 2 rfl ?_
      refine go_call fn38 (touches_h _ _) rfl rfl rfl rfl rfl rfl rfl ?_
      refine go_run' ttok 2 rfl ?_
      refine go_index ttok (Int.natCast_nonneg _) (ev := encDf l[k]) (get_map hk') rfl rfl rfl rfl rfl rfl rfl rfl rfl ?_
      refine go_run' ttok 2 rfl ?_
      refine go_call fn39 (rtouches_h _ _) rfl rfl rfl rfl rfl rfl rfl ?_
      refine go_step rfl (as_neBool rfl ty4_ok rfl rfl rfl) rfl rfl rfl ?_
      refine go_nil (fun _ => by kernel_rfl) ?_
      refine then_norm ?_
      refine awp_cond rfl (fun c28 => ?_) (fun c28 => ?_)
      · skip
        simp at c28 --STOP
      · skip
        refine awp_skip ?_
        refine block_norm ?_
        refine then_norm ?_
        refine awp_go hmix ?_
        refine go_run' ttok 3 rfl ?_
        refine go_nil nd ?_
        refine then_norm ⟨rfl, ⟨k + 1, hk'⟩, [(3, some 3)], ⟨rfl, rfl, rfl, rfl, rfl, ⟨⟨rfl, ?_⟩, trivial⟩, trivial⟩, ?_⟩
        · rw [w64_id' (by omega) (by omega)]
          rfl
        · dsimp only; omega
    · skip
      have hk' : k = l.length := by simp at c13; omega
      refine awp_exit ?_
      refine then_exit ?_
      refine then_exit ?_
      refine block_here ?_
      refine then_norm ?_
      refine awp_seq ?_
      refine awp_go hmix ?_
      refine go_run' ttok 2 rfl ?_
      refine go_call fn41 (clip_h _ _ (by assumption)) rfl rfl rfl rfl rfl rfl rfl ?_
      refine go_run' ttok 2 rfl ?_
      refine go_call fn42 (rclip_h _ _ (by assumption)) rfl rfl rfl rfl rfl rfl rfl ?_
      refine go_call fn40 (same_h _ _ (clip_len _ _ hl)) rfl rfl rfl rfl rfl rfl rfl ?_
      refine go_run' ttok 1 rfl ?_
      refine go_gcase rfl rfl rfl (fun g36 => ?_) (fun g36 => ?_)
      · rw [g36]
        refine go_call fn30 (awake13_h) rfl rfl rfl rfl rfl rfl rfl ?_
        refine go_run' ttok 2 rfl ?_
        refine go_nil (fun _ => by kernel_rfl) ?_
        refine then_norm ?_
        refine awp_ret ?_
        refine ret_ret ?_
        refine fin0 ttok rfl rfl ?_
        exact rfl
      · rw [g36]
        simp at g36 --STOP

theorem defectTurns_h (l : List Df) (n : Int) (hl : l.length ≤ 9223372036854775807) (ho : Oks l) : Holds Try.prog 10 [.sl (l.map encDf), I n] [] (B true) [] := by
  refine holds_fn Try.func10 rfl Try.ntmps10 rfl rfl rfl ?_
  refine awp_seq ?_
  refine awp_go hmix ?_
  refine go_run' ttok 1 rfl ?_
  refine go_nil nd ?_
  refine then_norm ?_
  refine awp_seq ?_
  refine awp_seq ?_
  refine awp_go hmix ?_
  refine go_run' ttok 1 rfl ?_
  refine go_call fn29 (few13_h _) rfl rfl rfl rfl rfl rfl rfl ?_
  refine go_run' ttok 1 rfl ?_
  refine go_nil nd ?_
  refine then_norm ?_
  refine awp_cond rfl (fun c7 => ?_) (fun c7 => ?_)
  · skip
    refine awp_seq ?_
    refine awp_go hmix ?_
    refine go_call fn30 (awake13_h) rfl rfl rfl rfl rfl rfl rfl ?_
    refine go_run' ttok 1 rfl ?_
    refine go_nil nd ?_
    refine then_norm ?_
    refine awp_ret ?_
    refine then_ret ?_
    refine ret_ret ?_
    refine fin0 ttok rfl rfl ?_
    exact rfl
  · skip
    refine awp_skip ?_
    refine then_norm ?_
    refine awp_seq ?_
    refine awp_go hmix ?_
    refine go_run' ttok 2 rfl ?_
    refine go_call fn43 (turn_h _ _ (by assumption)) rfl rfl rfl rfl rfl rfl rfl ?_
    refine go_run' ttok 2 rfl ?_
    refine go_call fn44 (rturn_h _ _ (by assumption)) rfl rfl rfl rfl rfl rfl rfl ?_
    refine go_call fn40 (same_h _ _ (turn_len _ _ hl)) rfl rfl rfl rfl rfl rfl rfl ?_
    refine go_run' ttok 1 rfl ?_
    refine go_gcase rfl rfl rfl (fun g16 => ?_) (fun g16 => ?_)
    · rw [g16]
      refine go_call fn30 (awake13_h) rfl rfl rfl rfl rfl rfl rfl ?_
      refine go_run' ttok 2 rfl ?_
      refine go_nil nd ?_
      refine then_norm ?_
      refine awp_ret ?_
      refine ret_ret ?_
      refine fin0 ttok rfl rfl ?_
      exact rfl
    · rw [g16]
      simp at g16 --STOP

theorem defectWorsts_h (l : List Df) (n : Int) (hl : l.length ≤ 9223372036854775807) (ho : Oks l) : Holds Try.prog 11 [.sl (l.map encDf), I n] [] (B true) [] := by
  refine holds_fn Try.func11 rfl Try.ntmps11 rfl rfl rfl ?_
  refine awp_seq ?_
  refine awp_go hmix ?_
  refine go_run' ttok 1 rfl ?_
  refine go_nil nd ?_
  refine then_norm ?_
  refine awp_seq ?_
  refine awp_seq ?_
  refine awp_go hmix ?_
  refine go_run' ttok 1 rfl ?_
  refine go_call fn29 (few13_h _) rfl rfl rfl rfl rfl rfl rfl ?_
  refine go_run' ttok 1 rfl ?_
  refine go_nil nd ?_
  refine then_norm ?_
  refine awp_cond rfl (fun c7 => ?_) (fun c7 => ?_)
  · skip
    refine awp_seq ?_
    refine awp_go hmix ?_
    refine go_call fn30 (awake13_h) rfl rfl rfl rfl rfl rfl rfl ?_
    refine go_run' ttok 1 rfl ?_
    refine go_nil nd ?_
    refine then_norm ?_
    refine awp_ret ?_
    refine then_ret ?_
    refine ret_ret ?_
    refine fin0 ttok rfl rfl ?_
    exact rfl
  · skip
    refine awp_skip ?_
    refine then_norm ?_
    refine awp_seq ?_
    refine awp_go hmix ?_
    refine go_run' ttok 2 rfl ?_
    refine go_call fn45 (worst_h _ _ (by assumption) (by assumption)) rfl rfl rfl rfl rfl rfl rfl ?_
    refine go_run' ttok 2 rfl ?_
    refine go_call fn46 (rworst_h _ _ (by assumption) (by assumption)) rfl rfl rfl rfl rfl rfl rfl ?_
    refine go_run' ttok 2 rfl ?_
    refine go_gcase rfl rfl rfl (fun g16 => ?_) (fun g16 => ?_)
    · rw [g16]
      refine go_call fn30 (awake13_h) rfl rfl rfl rfl rfl rfl rfl ?_
      refine go_run' ttok 2 rfl ?_
      refine go_nil nd ?_
      refine then_norm ?_
      refine awp_ret ?_
      refine ret_ret ?_
      refine fin0 ttok rfl rfl ?_
      exact rfl
    · rw [g16]
      simp at g16 --STOP

end Go.Proofs.Ytbgoflekklfdjaa
