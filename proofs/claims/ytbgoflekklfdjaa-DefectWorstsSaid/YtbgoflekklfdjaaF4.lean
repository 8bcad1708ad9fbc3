/- F4: what functions of the program compute (written by gen.py). -/
import Derived.Test.YtbgoflekklfdjaaF3
import Derived.KernelRfl
namespace Go.Proofs.Ytbgoflekklfdjaa
open Go Go.Ab
set_option linter.unusedSimpArgs false
set_option linter.unusedVariables false

theorem meet_em (s t : Sp) : decide ((meet s t).a < (meet s t).b) = !emS (meet s t) := by
  unfold emS
  by_cases h : (meet s t).a < (meet s t).b
  · simp [h]
  · simp [h, Int.not_lt.1 h]


theorem window_h (l : List Df) (z : Sp) (hl : l.length ≤ 9223372036854775807) (ho : Oks l) : Holds Try.prog 71 [.sl (l.map encDf), encSp z] [] (I (windowD l z)) [] := by
  refine holds_fn Try.func71 rfl Try.ntmps71 rfl rfl rfl ?_
  refine awp_seq ?_
  refine awp_go hmix ?_
  refine go_run' ttok 2 rfl ?_
  refine go_nil nd ?_
  refine then_norm ?_
  refine awp_seq ?_
  refine awp_go hmix ?_
  refine go_run' ttok 1 rfl ?_
  refine go_nil nd ?_
  refine then_norm ?_
  refine awp_seq ?_
  refine awp_seq ?_
  refine awp_go hmix ?_
  refine go_run' ttok 1 rfl ?_
  refine go_nil nd ?_
  refine then_norm ?_
  refine awp_block ?_
  refine awp_loopK (X := {k : Nat // k ≤ l.length}) [0, 3] [3] (fun x => [(5, I ((l.take x.1).foldl (winF z) 0)), (6, I x.1)]) (fun x => []) (fun x => l.length - x.1) ⟨0, Nat.zero_le _⟩ [(3, some 3)] ⟨rfl, rfl, rfl, rfl, rfl, ⟨⟨rfl, rfl⟩, ⟨rfl, rfl⟩, trivial⟩, trivial⟩ (fun x => ?_)
  obtain ⟨k, hk⟩ := x
  dsimp only
  refine awp_seq ?_
  refine awp_seq ?_
  refine awp_go hmix ?_
  refine go_run' ttok 4 rfl ?_
  refine go_nil nd ?_
  refine then_norm ?_
  refine awp_cond rfl (fun c11 => ?_) (fun c11 => ?_)
  · skip
    have hk' : k < l.length := by simpa using c11
    refine awp_skip ?_
    refine then_norm ?_
    refine awp_seq ?_
    refine awp_block ?_
    refine awp_seq ?_
    refine awp_go hmix ?_
    refine go_run' ttok 2 rfl ?_
    refine go_index ttok (Int.natCast_nonneg _) (ev := encDf l[k]) (get_map hk') rfl rfl rfl rfl rfl rfl rfl rfl rfl ?_
    refine go_run' ttok 4 rfl ?_
    first
      | refine go_call fn72 (rmeet_h _ _) rfl rfl rfl rfl rfl rfl rfl ?_
      | refine go_call fn72 (rmeet_h_v1 _ _ _) rfl rfl rfl rfl rfl rfl rfl ?_
      | refine go_call fn72 (rmeet_h_v2 _ _ _) rfl rfl rfl rfl rfl rfl rfl ?_
      | refine go_call fn72 (rmeet_h_v3 _ _ _ _) rfl rfl rfl rfl rfl rfl rfl ?_
    refine go_run' ttok 2 rfl ?_
    refine go_nil (fun _ => by kernel_rfl) ?_
    refine then_norm ?_
    refine awp_seq ?_
    refine awp_go hmix ?_
    refine go_run' ttok 2 rfl ?_
    refine go_index ttok (Int.natCast_nonneg _) (ev := encDf l[k]) (get_map hk') rfl rfl rfl rfl rfl rfl rfl rfl rfl ?_
    refine go_run' ttok 1 rfl ?_
    refine go_call fn27 (rknot_h _) rfl rfl rfl rfl rfl rfl rfl ?_
    refine go_run' ttok 1 rfl ?_
    refine go_gcase rfl rfl rfl (fun g27 => ?_) (fun g27 => ?_)
    · rw [g27]
      refine go_run' ttok 6 rfl ?_
      refine go_nil nd ?_
      refine then_norm ?_
      refine awp_cond rfl (fun c33 => ?_) (fun c33 => ?_)
      · skip
        have hok := ho.at hk'
        refine awp_go hmix ?_
        refine go_run' ttok 3 rfl ?_
        refine go_index ttok (Int.natCast_nonneg _) (ev := encDf l[k]) (get_map hk') rfl rfl rfl rfl rfl rfl rfl rfl rfl ?_
        refine go_run' ttok 1 rfl ?_
        refine go_call fn32 (rdsize_h _ (by assumption)) rfl rfl rfl rfl rfl rfl rfl ?_
        refine go_run' ttok 2 rfl ?_
        refine go_nil nd ?_
        refine block_norm ?_
        refine then_norm ?_
        refine awp_go hmix ?_
        refine go_run' ttok 3 rfl ?_
        refine go_nil nd ?_
        refine then_norm ⟨rfl, ⟨k + 1, hk'⟩, [(3, some 3)], ⟨rfl, rfl, rfl, rfl, rfl, ⟨⟨rfl, ?_⟩, ⟨rfl, ?_⟩, trivial⟩, trivial⟩, ?_⟩
        · rw [foldl_take hk', winF, g27, ← meet_em, c33]
          rfl
        · rw [w64_id' (by omega) (by omega)]
          rfl
        · dsimp only; omega
      · skip
        refine awp_skip ?_
        refine block_norm ?_
        refine then_norm ?_
        refine awp_go hmix ?_
        refine go_run' ttok 3 rfl ?_
        refine go_nil nd ?_
        refine then_norm ⟨rfl, ⟨k + 1, hk'⟩, [(3, some 3)], ⟨rfl, rfl, rfl, rfl, rfl, ⟨⟨rfl, ?_⟩, ⟨rfl, ?_⟩, trivial⟩, trivial⟩, ?_⟩
        · rw [foldl_take hk', winF, g27, ← meet_em, c33]
          rfl
        · rw [w64_id' (by omega) (by omega)]
          rfl
        · dsimp only; omega
    · rw [g27]
      refine go_run' ttok 6 rfl ?_
      refine go_nil nd ?_
      refine then_norm ?_
      refine awp_cond rfl (fun h => by cases h) (fun tt0 => ?_)
      clear tt0
      refine awp_skip ?_
      refine block_norm ?_
      refine then_norm ?_
      refine awp_go hmix ?_
      refine go_run' ttok 3 rfl ?_
      refine go_nil nd ?_
      refine then_norm ⟨rfl, ⟨k + 1, hk'⟩, [(3, some 3)], ⟨rfl, rfl, rfl, rfl, rfl, ⟨⟨rfl, ?_⟩, ⟨rfl, ?_⟩, trivial⟩, trivial⟩, ?_⟩
      · rw [foldl_take hk', winF, g27]
        rfl
      · rw [w64_id' (by omega) (by omega)]
        rfl
      · dsimp only; omega
  · skip
    have hk' : k = l.length := by simp at c11; omega
    refine awp_exit ?_
    refine then_exit ?_
    refine then_exit ?_
    refine block_here ?_
    refine then_norm ?_
    refine awp_seq ?_
    refine awp_go hmix ?_
    refine go_run' ttok 2 rfl ?_
    refine go_nil nd ?_
    refine then_norm ?_
    refine awp_ret ?_
    refine ret_ret ?_
    refine fin0 ttok rfl rfl ?_
    refine ⟨rfl, ?_⟩
    rw [hk', List.take_length]
    rfl

theorem window_h_v1 (l : List Df) (z0 z1 : Int) (hl : l.length ≤ 9223372036854775807) (ho : Oks l) : Holds Try.prog 71 [.sl (l.map encDf), .agg [I z0, I z1]] [] (I (windowD l ⟨z0, z1⟩)) [] :=
  window_h l ⟨z0, z1⟩ hl ho


theorem worst_h (l : List Df) (w : Int) (hl : l.length ≤ 9223372036854775807) (ho : Oks l) : Holds Try.prog 45 [.sl (l.map encDf), I w] [] (I (worstD l w)) [] := by
  refine holds_fn Try.func45 rfl Try.ntmps45 rfl rfl rfl ?_
  refine awp_seq ?_
  refine awp_go hmix ?_
  refine go_run' ttok 1 rfl ?_
  refine go_nil nd ?_
  refine then_norm ?_
  refine awp_seq ?_
  refine awp_seq ?_
  refine awp_go hmix ?_
  refine go_run' ttok 1 rfl ?_
  refine go_call fn33 (dcheckL_h _ (by assumption)) rfl rfl rfl rfl rfl rfl rfl ?_
  refine go_run' ttok 2 rfl ?_
  refine go_gcase rfl rfl rfl (fun g16 => ?_) (fun g16 => ?_)
  · rw [g16]
    refine go_run' ttok 7 rfl ?_
    refine go_nil nd ?_
    refine then_norm ?_
    refine awp_cond rfl (fun tt0 => ?_) (fun h => by cases h)
    clear tt0
    refine awp_seq ?_
    refine awp_go hmix ?_
    refine go_run' ttok 1 rfl ?_
    refine go_nil nd ?_
    refine then_norm ?_
    refine awp_ret ?_
    refine then_ret ?_
    refine ret_ret ?_
    refine fin0 ttok rfl rfl ?_
    refine ⟨rfl, ?_⟩
    simp only [worstD, Bool.true_and, Bool.false_and, Bool.and_true, Bool.and_false, Bool.true_or, Bool.false_or, Bool.or_true, Bool.or_false, Bool.not_true, Bool.not_false, cond_true, cond_false, *]
  · rw [g16]
    refine go_run' ttok 4 rfl ?_
    refine go_gcase rfl rfl rfl (fun g20 => ?_) (fun g20 => ?_)
    · rw [g20]
      refine go_run' ttok 3 rfl ?_
      refine go_nil nd ?_
      refine then_norm ?_
      refine awp_cond rfl (fun tt0 => ?_) (fun h => by cases h)
      clear tt0
      refine awp_seq ?_
      refine awp_go hmix ?_
      refine go_run' ttok 1 rfl ?_
      refine go_nil nd ?_
      refine then_norm ?_
      refine awp_ret ?_
      refine then_ret ?_
      refine ret_ret ?_
      refine fin0 ttok rfl rfl ?_
      refine ⟨rfl, ?_⟩
      simp only [worstD, Bool.true_and, Bool.false_and, Bool.and_true, Bool.and_false, Bool.true_or, Bool.false_or, Bool.or_true, Bool.or_false, Bool.not_true, Bool.not_false, cond_true, cond_false, *]
    · rw [g20]
      refine go_run' ttok 3 rfl ?_
      refine go_nil nd ?_
      refine then_norm ?_
      refine awp_cond rfl (fun c23 => ?_) (fun c23 => ?_)
      · skip
        refine awp_seq ?_
        refine awp_go hmix ?_
        refine go_run' ttok 1 rfl ?_
        refine go_nil nd ?_
        refine then_norm ?_
        refine awp_ret ?_
        refine then_ret ?_
        refine ret_ret ?_
        refine fin0 ttok rfl rfl ?_
        refine ⟨rfl, ?_⟩
        simp only [worstD, Bool.true_and, Bool.false_and, Bool.and_true, Bool.and_false, Bool.true_or, Bool.false_or, Bool.or_true, Bool.or_false, Bool.not_true, Bool.not_false, cond_true, cond_false, *]
      · skip
        refine awp_skip ?_
        refine then_norm ?_
        refine awp_seq ?_
        refine awp_go hmix ?_
        refine go_run' ttok 1 rfl ?_
        refine go_nil nd ?_
        refine then_norm ?_
        refine awp_seq ?_
        refine awp_seq ?_
        refine awp_go hmix ?_
        refine go_run' ttok 3 rfl ?_
        refine go_nil nd ?_
        refine then_norm ?_
        refine awp_block ?_
        refine awp_loopK (X := {k : Nat // k ≤ l.length}) [0, 1, 24, 25] [] (fun x => [(5, I ((l.take x.1).foldl (worF l w) 0)), (26, I x.1)]) (fun x => []) (fun x => l.length - x.1) ⟨0, Nat.zero_le _⟩ [] ⟨rfl, rfl, rfl, rfl, rfl, ⟨⟨rfl, rfl⟩, ⟨rfl, rfl⟩, trivial⟩, trivial⟩ (fun x => ?_)
        obtain ⟨k, hk⟩ := x
        dsimp only
        refine awp_seq ?_
        refine awp_go hmix ?_
        refine go_run' ttok 1 rfl ?_
        refine go_nil nd ?_
        refine then_norm ?_
        refine awp_seq ?_
        refine awp_cond rfl (fun c27 => ?_) (fun c27 => ?_)
        · skip
          have hk' : k < l.length := by simpa using c27
          refine awp_skip ?_
          refine then_norm ?_
          refine awp_seq ?_
          refine awp_block ?_
          refine awp_seq ?_
          refine awp_go hmix ?_
          refine go_index ttok (Int.natCast_nonneg _) (ev := encDf l[k]) (get_map hk') rfl rfl rfl rfl rfl rfl rfl rfl rfl ?_
          refine go_run' ttok 3 rfl ?_
          refine go_nil nd ?_
          refine then_norm ?_
          refine awp_seq ?_
          refine awp_go hmix ?_
          refine go_run' ttok 8 rfl ?_
          refine go_nil nd ?_
          refine then_norm ?_
          refine awp_seq ?_
          refine awp_go hmix ?_
          refine go_run' ttok 7 rfl ?_
          refine go_nil nd ?_
          refine then_norm ?_
          refine awp_seq ?_
          refine awp_go hmix ?_
          refine go_run' ttok 1 rfl ?_
          refine go_nil nd ?_
          refine then_norm ?_
          refine awp_seq ?_
          refine awp_seq ?_
          refine awp_go hmix ?_
          refine go_run' ttok 3 rfl ?_
          refine go_nil nd ?_
          refine then_norm ?_
          refine awp_block ?_
          refine awp_loopK (X := {k : Nat // k ≤ l.length}) [0, 1, 5, 9, 24, 25, 26, 42, 43] [9] (fun x => [(10, I ((l.take x.1).foldl (winF (zAt l[k] w)) 0)), (44, I x.1)]) (fun x => []) (fun x => l.length - x.1) ⟨0, Nat.zero_le _⟩ [(9, some 9)] ⟨rfl, rfl, rfl, rfl, rfl, ⟨⟨rfl, rfl⟩, ⟨rfl, rfl⟩, trivial⟩, trivial⟩ (fun x => ?_)
          obtain ⟨j, hj⟩ := x
          dsimp only
          refine awp_seq ?_
          refine awp_go hmix ?_
          refine go_run' ttok 1 rfl ?_
          refine go_nil nd ?_
          refine then_norm ?_
          refine awp_seq ?_
          refine awp_cond rfl (fun c45 => ?_) (fun c45 => ?_)
          · skip
            have hj' : j < l.length := by simpa using c45
            refine awp_skip ?_
            refine then_norm ?_
            refine awp_seq ?_
            refine awp_block ?_
            refine awp_seq ?_
            refine awp_go hmix ?_
            refine go_index ttok (Int.natCast_nonneg _) (ev := encDf l[j]) (get_map hj') rfl rfl rfl rfl rfl rfl rfl rfl rfl ?_
            refine go_run' ttok 3 rfl ?_
            refine go_nil nd ?_
            refine then_norm ?_
            refine awp_seq ?_
            refine awp_go hmix ?_
            refine go_run' ttok 1 rfl ?_
            refine go_call fn68 (isKnot_h _) rfl rfl rfl rfl rfl rfl rfl ?_
            refine go_run' ttok 1 rfl ?_
            refine go_gcase rfl rfl rfl (fun g50 => ?_) (fun g50 => ?_)
            · rw [g50]
              refine go_run' ttok 4 rfl ?_
              first
                | refine go_call fn70 (meet_h _ _) rfl rfl rfl rfl rfl rfl rfl ?_
                | refine go_call fn70 (meet_h_v1 _ _ _) rfl rfl rfl rfl rfl rfl rfl ?_
                | refine go_call fn70 (meet_h_v2 _ _ _) rfl rfl rfl rfl rfl rfl rfl ?_
                | refine go_call fn70 (meet_h_v3 _ _ _ _) rfl rfl rfl rfl rfl rfl rfl ?_
              first
                | refine go_call fn69 (isEmpty_h _) rfl rfl rfl rfl rfl rfl rfl ?_
                | refine go_call fn69 (isEmpty_h_v1 _ _) rfl rfl rfl rfl rfl rfl rfl ?_
              refine go_run' ttok 2 rfl ?_
              refine go_nil nd ?_
              refine then_norm ?_
              refine awp_cond rfl (fun c58 => ?_) (fun c58 => ?_)
              · skip
                have hok := ho.at hj'
                refine awp_go hmix ?_
                refine go_run' ttok 2 rfl ?_
                refine go_call fn31 (dsize_h _ (by assumption)) rfl rfl rfl rfl rfl rfl rfl ?_
                refine go_run' ttok 2 rfl ?_
                refine go_nil nd ?_
                refine block_norm ?_
                refine then_norm ?_
                refine awp_go hmix ?_
                refine go_run' ttok 2 rfl ?_
                refine go_nil nd ?_
                refine then_norm ⟨rfl, ⟨j + 1, hj'⟩, [(9, some 9)], ⟨rfl, rfl, rfl, rfl, rfl, ⟨⟨rfl, ?_⟩, ⟨rfl, ?_⟩, trivial⟩, trivial⟩, ?_⟩
                · have c58' : emS (meet l[j].b.z (zAt l[k] w)) = false := by simpa [zAt] using c58
                  rw [foldl_take hj', winF, g50, c58']
                  rfl
                · rw [w64_id' (by omega) (by omega)]
                  rfl
                · dsimp only; omega
              · skip
                refine awp_skip ?_
                refine block_norm ?_
                refine then_norm ?_
                refine awp_go hmix ?_
                refine go_run' ttok 2 rfl ?_
                refine go_nil nd ?_
                refine then_norm ⟨rfl, ⟨j + 1, hj'⟩, [(9, some 9)], ⟨rfl, rfl, rfl, rfl, rfl, ⟨⟨rfl, ?_⟩, ⟨rfl, ?_⟩, trivial⟩, trivial⟩, ?_⟩
                · have c58' : emS (meet l[j].b.z (zAt l[k] w)) = true := by simpa [zAt] using c58
                  rw [foldl_take hj', winF, g50, c58']
                  rfl
                · rw [w64_id' (by omega) (by omega)]
                  rfl
                · dsimp only; omega
            · rw [g50]
              refine go_run' ttok 8 rfl ?_
              refine go_nil nd ?_
              refine then_norm ?_
              refine awp_cond rfl (fun h => by cases h) (fun tt0 => ?_)
              clear tt0
              refine awp_skip ?_
              refine block_norm ?_
              refine then_norm ?_
              refine awp_go hmix ?_
              refine go_run' ttok 2 rfl ?_
              refine go_nil nd ?_
              refine then_norm ⟨rfl, ⟨j + 1, hj'⟩, [(9, some 9)], ⟨rfl, rfl, rfl, rfl, rfl, ⟨⟨rfl, ?_⟩, ⟨rfl, ?_⟩, trivial⟩, trivial⟩, ?_⟩
              · rw [foldl_take hj', winF, g50]
                rfl
              · rw [w64_id' (by omega) (by omega)]
                rfl
              · dsimp only; omega
          · skip
            have hj' : j = l.length := by simp at c45; omega
            refine awp_exit ?_
            refine then_exit ?_
            refine then_exit ?_
            refine block_here ?_
            refine then_norm ?_
            refine awp_go hmix ?_
            refine go_run' ttok 4 rfl ?_
            refine go_nil nd ?_
            refine block_norm ?_
            refine then_norm ?_
            refine awp_go hmix ?_
            refine go_run' ttok 2 rfl ?_
            refine go_nil nd ?_
            refine then_norm ⟨rfl, ⟨k + 1, hk'⟩, [], ⟨rfl, rfl, rfl, rfl, rfl, ⟨⟨rfl, ?_⟩, ⟨rfl, ?_⟩, trivial⟩, trivial⟩, ?_⟩
            · rw [foldl_take hk', worF, hj', List.take_length]
              rfl
            · rw [w64_id' (by omega) (by omega)]
              rfl
            · dsimp only; omega
        · skip
          have hk' : k = l.length := by simp at c27; omega
          refine awp_exit ?_
          refine then_exit ?_
          refine then_exit ?_
          refine block_here ?_
          refine then_norm ?_
          refine awp_seq ?_
          refine awp_go hmix ?_
          refine go_run' ttok 2 rfl ?_
          refine go_nil nd ?_
          refine then_norm ?_
          refine awp_ret ?_
          refine ret_ret ?_
          refine fin0 ttok rfl rfl ?_
          refine ⟨rfl, ?_⟩
          rw [hk', List.take_length]
          simp only [worstD, Bool.true_and, Bool.false_and, Bool.and_true, Bool.and_false, Bool.true_or, Bool.false_or, Bool.or_true, Bool.or_false, Bool.not_true, Bool.not_false, cond_true, cond_false, *]

theorem rworst_h (l : List Df) (w : Int) (hl : l.length ≤ 9223372036854775807) (ho : Oks l) : Holds Try.prog 46 [.sl (l.map encDf), I w] [] (I (worstD l w)) [] := by
  refine holds_fn Try.func46 rfl Try.ntmps46 rfl rfl rfl ?_
  refine awp_seq ?_
  refine awp_go hmix ?_
  refine go_run' ttok 1 rfl ?_
  refine go_nil nd ?_
  refine then_norm ?_
  refine awp_seq ?_
  refine awp_seq ?_
  refine awp_go hmix ?_
  refine go_run' ttok 1 rfl ?_
  refine go_call fn26 (rcheckL_h _ (by assumption)) rfl rfl rfl rfl rfl rfl rfl ?_
  refine go_run' ttok 2 rfl ?_
  refine go_gcase rfl rfl rfl (fun g11 => ?_) (fun g11 => ?_)
  · rw [g11]
    refine go_run' ttok 7 rfl ?_
    refine go_nil nd ?_
    refine then_norm ?_
    refine awp_cond rfl (fun tt0 => ?_) (fun h => by cases h)
    clear tt0
    refine awp_seq ?_
    refine awp_go hmix ?_
    refine go_run' ttok 1 rfl ?_
    refine go_nil nd ?_
    refine then_norm ?_
    refine awp_ret ?_
    refine then_ret ?_
    refine ret_ret ?_
    refine fin0 ttok rfl rfl ?_
    refine ⟨rfl, ?_⟩
    simp only [worstD, Bool.true_and, Bool.false_and, Bool.and_true, Bool.and_false, Bool.true_or, Bool.false_or, Bool.or_true, Bool.or_false, Bool.not_true, Bool.not_false, cond_true, cond_false, *]
  · rw [g11]
    refine go_run' ttok 4 rfl ?_
    refine go_gcase rfl rfl rfl (fun g15 => ?_) (fun g15 => ?_)
    · rw [g15]
      refine go_run' ttok 3 rfl ?_
      refine go_nil nd ?_
      refine then_norm ?_
      refine awp_cond rfl (fun tt0 => ?_) (fun h => by cases h)
      clear tt0
      refine awp_seq ?_
      refine awp_go hmix ?_
      refine go_run' ttok 1 rfl ?_
      refine go_nil nd ?_
      refine then_norm ?_
      refine awp_ret ?_
      refine then_ret ?_
      refine ret_ret ?_
      refine fin0 ttok rfl rfl ?_
      refine ⟨rfl, ?_⟩
      simp only [worstD, Bool.true_and, Bool.false_and, Bool.and_true, Bool.and_false, Bool.true_or, Bool.false_or, Bool.or_true, Bool.or_false, Bool.not_true, Bool.not_false, cond_true, cond_false, *]
    · rw [g15]
      refine go_run' ttok 3 rfl ?_
      refine go_nil nd ?_
      refine then_norm ?_
      refine awp_cond rfl (fun c18 => ?_) (fun c18 => ?_)
      · skip
        refine awp_seq ?_
        refine awp_go hmix ?_
        refine go_run' ttok 1 rfl ?_
        refine go_nil nd ?_
        refine then_norm ?_
        refine awp_ret ?_
        refine then_ret ?_
        refine ret_ret ?_
        refine fin0 ttok rfl rfl ?_
        refine ⟨rfl, ?_⟩
        simp only [worstD, Bool.true_and, Bool.false_and, Bool.and_true, Bool.and_false, Bool.true_or, Bool.false_or, Bool.or_true, Bool.or_false, Bool.not_true, Bool.not_false, cond_true, cond_false, *]
      · skip
        refine awp_skip ?_
        refine then_norm ?_
        refine awp_seq ?_
        refine awp_go hmix ?_
        refine go_run' ttok 1 rfl ?_
        refine go_nil nd ?_
        refine then_norm ?_
        refine awp_seq ?_
        refine awp_seq ?_
        refine awp_go hmix ?_
        refine go_run' ttok 1 rfl ?_
        refine go_nil nd ?_
        refine then_norm ?_
        refine awp_block ?_
        refine awp_loopK (X := {k : Nat // k ≤ l.length}) [0, 1] [] (fun x => [(5, I ((l.take x.1).foldl (worF l w) 0)), (6, I x.1)]) (fun x => []) (fun x => l.length - x.1) ⟨0, Nat.zero_le _⟩ [] ⟨rfl, rfl, rfl, rfl, rfl, ⟨⟨rfl, rfl⟩, ⟨rfl, rfl⟩, trivial⟩, trivial⟩ (fun x => ?_)
        obtain ⟨k, hk⟩ := x
        dsimp only
        refine awp_seq ?_
        refine awp_seq ?_
        refine awp_go hmix ?_
        refine go_run' ttok 4 rfl ?_
        refine go_nil nd ?_
        refine then_norm ?_
        refine awp_cond rfl (fun c22 => ?_) (fun c22 => ?_)
        · skip
          have hk' : k < l.length := by simpa using c22
          refine awp_skip ?_
          refine then_norm ?_
          refine awp_seq ?_
          refine awp_block ?_
          refine awp_seq ?_
          refine awp_go hmix ?_
          refine go_run' ttok 2 rfl ?_
          refine go_index ttok (Int.natCast_nonneg _) (ev := encDf l[k]) (get_map hk') rfl rfl rfl rfl rfl rfl rfl rfl rfl ?_
          refine go_run' ttok 8 rfl ?_
          refine go_nil nd ?_
          refine then_norm ?_
          refine awp_go hmix ?_
          refine go_run' ttok 7 rfl ?_
          first
            | refine go_call fn71 (window_h _ _ (by assumption) (by assumption)) rfl rfl rfl rfl rfl rfl rfl ?_
            | refine go_call fn71 (window_h_v1 _ _ _ (by assumption) (by assumption)) rfl rfl rfl rfl rfl rfl rfl ?_
          refine go_run' ttok 2 rfl ?_
          refine go_nil nd ?_
          refine block_norm ?_
          refine then_norm ?_
          refine awp_go hmix ?_
          refine go_run' ttok 3 rfl ?_
          refine go_nil nd ?_
          refine then_norm ⟨rfl, ⟨k + 1, hk'⟩, [], ⟨rfl, rfl, rfl, rfl, rfl, ⟨⟨rfl, ?_⟩, ⟨rfl, ?_⟩, trivial⟩, trivial⟩, ?_⟩
          · rw [foldl_take hk', worF]
            rfl
          · rw [w64_id' (by omega) (by omega)]
            rfl
          · dsimp only; omega
        · skip
          have hk' : k = l.length := by simp at c22; omega
          refine awp_exit ?_
          refine then_exit ?_
          refine then_exit ?_
          refine block_here ?_
          refine then_norm ?_
          refine awp_seq ?_
          refine awp_go hmix ?_
          refine go_run' ttok 2 rfl ?_
          refine go_nil nd ?_
          refine then_norm ?_
          refine awp_ret ?_
          refine ret_ret ?_
          refine fin0 ttok rfl rfl ?_
          refine ⟨rfl, ?_⟩
          rw [hk', List.take_length]
          simp only [worstD, Bool.true_and, Bool.false_and, Bool.and_true, Bool.and_false, Bool.true_or, Bool.false_or, Bool.or_true, Bool.or_false, Bool.not_true, Bool.not_false, cond_true, cond_false, *]

end Go.Proofs.Ytbgoflekklfdjaa
