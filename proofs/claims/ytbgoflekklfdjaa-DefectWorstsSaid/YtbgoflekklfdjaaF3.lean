/- F3: what functions of the program compute (written by gen.py). -/
import Derived.Test.YtbgoflekklfdjaaF2
import Derived.KernelRfl
namespace Go.Proofs.Ytbgoflekklfdjaa
open Go Go.Ab
set_option linter.unusedSimpArgs false
set_option linter.unusedVariables false

/-- The first number of a list that is not 0. -/
def firstNZ {α : Type} (f : α → Int) : List α → Int
  | [] => 0
  | a :: l => if f a = 0 then firstNZ f l else f a
theorem firstNZ_at {α : Type} {f : α → Int} : ∀ {l : List α} {k : Nat} (hk : k < l.length), (∀ d, d ∈ l.take k → f d = 0) → f l[k] ≠ 0 → firstNZ f l = f l[k]
  | a :: l, 0, _, _, h => by
    simp only [List.getElem_cons_zero] at h ⊢
    simp [firstNZ, h]
  | a :: l, k + 1, hk, hz, h => by
    have h0 : f a = 0 := hz a (by simp)
    simp only [List.getElem_cons_succ] at h ⊢
    rw [firstNZ, if_pos h0]
    exact firstNZ_at (by simpa using hk) (fun d hd => hz d (by simp [hd])) h
theorem firstNZ_zero {α : Type} {f : α → Int} : ∀ {l : List α}, (∀ d, d ∈ l → f d = 0) → firstNZ f l = 0
  | [], _ => rfl
  | a :: l, h => by
    rw [firstNZ, if_pos (h a (by simp))]
    exact firstNZ_zero fun d hd => h d (by simp [hd])
theorem firstNZ_all {α : Type} {f : α → Int} : ∀ {l : List α}, firstNZ f l = 0 → ∀ d, d ∈ l → f d = 0
  | [], _, d, hd => by simp at hd
  | a :: l, h, d, hd => by
    rw [firstNZ] at h
    split at h
    · rename_i h0
      rcases List.mem_cons.1 hd with rfl | hd
      · exact h0
      · exact firstNZ_all h d hd
    · rename_i h0; exact absurd h h0
theorem take_zero_succ {α : Type} {f : α → Int} {l : List α} {k : Nat} (hk : k < l.length) (hz : ∀ d, d ∈ l.take k → f d = 0) (h : f l[k] = 0) : ∀ d, d ∈ l.take (k + 1) → f d = 0 := by
  intro d hd
  rw [take_succ_get hk, List.mem_append] at hd
  rcases hd with hd | hd
  · exact hz d hd
  · simp at hd; rw [hd]; exact h
def checkL (l : List Df) : Int := if 64 < l.length then 4 else firstNZ dcheck l
/-- The error of a defect, as the specification says it. -/
def rdcheck (d : Df) : Int := bif decide (d.k < 1) || decide (6 < d.k) then 10 else bif emB d.b then 19 else bif !rangedB d.b then 9 else 0
theorem insideB_eq {s : Sp} (h : emS s = false) (lo hi : Int) : insideB s lo hi = insB s lo hi := by
  unfold emS at h
  have h := of_decide_eq_false h
  unfold insideB insB
  congr 1
  · exact decide_eq_decide.2 (by omega)
  · exact decide_eq_decide.2 (by omega)
theorem dcheck_eq (d : Df) : dcheck d = rdcheck d := by
  unfold dcheck rdcheck
  cases h : emB d.b
  · unfold emB at h
    simp only [Bool.or_eq_false_iff] at h
    rw [insideB_eq h.1, insideB_eq h.2.1, insideB_eq h.2.2]
    simp [rangedB]
  · simp


theorem dcheckL_h (l : List Df) (hl : l.length ≤ 9223372036854775807) : Holds Try.prog 33 [.sl (l.map encDf)] [] (I (checkL l)) [] := by
  refine holds_fn Try.func33 rfl Try.ntmps33 rfl rfl rfl ?_
  refine awp_seq ?_
  refine awp_go hmix ?_
  refine go_run' ttok 1 rfl ?_
  refine go_nil nd ?_
  refine then_norm ?_
  refine awp_seq ?_
  refine awp_seq ?_
  refine awp_go hmix ?_
  refine go_run' ttok 3 rfl ?_
  refine go_nil nd ?_
  refine then_norm ?_
  refine awp_cond rfl (fun c8 => ?_) (fun c8 => ?_)
  · skip
    refine awp_seq ?_
    refine awp_go hmix ?_
    refine go_run' ttok 1 rfl ?_
    refine go_nil nd ?_
    refine then_norm ?_
    refine awp_ret ?_
    refine then_ret ?_
    refine ret_ret ?_
    refine fin0 ttok rfl rfl ?_
    refine ⟨rfl, ?_⟩
    simp at c8
    rw [checkL, if_pos (by omega)]
  · skip
    refine awp_skip ?_
    refine then_norm ?_
    refine awp_seq ?_
    refine awp_seq ?_
    refine awp_go hmix ?_
    refine go_run' ttok 3 rfl ?_
    refine go_nil nd ?_
    refine then_norm ?_
    refine awp_block ?_
    refine awp_loopK (X := {k : Nat // k ≤ l.length ∧ ∀ d, d ∈ l.take k → dcheck d = 0}) [9, 10] [] (fun x => [(11, I x.1)]) (fun x => []) (fun x => l.length - x.1) ⟨0, Nat.zero_le _, by simp⟩ [] ⟨rfl, rfl, rfl, rfl, rfl, ⟨⟨rfl, rfl⟩, trivial⟩, trivial⟩ (fun x => ?_)
    obtain ⟨k, hk, hz⟩ := x
    dsimp only
    refine awp_seq ?_
    refine awp_go hmix ?_
    refine go_run' ttok 1 rfl ?_
    refine go_nil nd ?_
    refine then_norm ?_
    refine awp_seq ?_
    refine awp_cond rfl (fun c12 => ?_) (fun c12 => ?_)
    · skip
      have hk' : k < l.length := by simpa using c12
      refine awp_skip ?_
      refine then_norm ?_
      refine awp_seq ?_
      refine awp_block ?_
      refine awp_seq ?_
      refine awp_go hmix ?_
      refine go_index ttok (Int.natCast_nonneg _) (ev := encDf l[k]) (get_map hk') rfl rfl rfl rfl rfl rfl rfl rfl rfl ?_
      refine go_run' ttok 3 rfl ?_
      refine go_nil nd ?_
      refine then_norm ?_
      refine awp_seq ?_
      refine awp_go hmix ?_
      refine go_run' ttok 1 rfl ?_
      refine go_call fn61 (check_h _) rfl rfl rfl rfl rfl rfl rfl ?_
      refine go_run' ttok 1 rfl ?_
      refine go_nil nd ?_
      refine then_norm ?_
      refine awp_seq ?_
      refine awp_go hmix ?_
      refine go_run' ttok 2 rfl ?_
      refine go_nil nd ?_
      refine then_norm ?_
      refine awp_cond rfl (fun c18 => ?_) (fun c18 => ?_)
      · skip
        refine awp_seq ?_
        refine awp_go hmix ?_
        refine go_run' ttok 2 rfl ?_
        refine go_nil nd ?_
        refine then_norm ?_
        refine awp_ret ?_
        refine block_ret ?_
        refine then_ret ?_
        refine then_ret ?_
        refine block_ret ?_
        refine then_ret ?_
        refine ret_ret ?_
        refine fin0 ttok rfl rfl ?_
        refine ⟨rfl, ?_⟩
        simp at c8
        rw [checkL, if_neg (by omega), firstNZ_at hk' hz (by simpa using c18)]
      · skip
        refine awp_skip ?_
        refine block_norm ?_
        refine then_norm ?_
        refine awp_go hmix ?_
        refine go_run' ttok 2 rfl ?_
        refine go_nil nd ?_
        refine then_norm ⟨rfl, ⟨k + 1, hk', take_zero_succ hk' hz (by simpa using c18)⟩, [], ⟨rfl, rfl, rfl, rfl, rfl, ⟨⟨rfl, ?_⟩, trivial⟩, trivial⟩, ?_⟩
        · rw [w64_id' (by omega) (by omega)]
          rfl
        · dsimp only; omega
    · skip
      have hk' : k = l.length := by simp at c12; omega
      refine awp_exit ?_
      refine then_exit ?_
      refine then_exit ?_
      refine block_here ?_
      refine then_norm ?_
      refine awp_seq ?_
      refine awp_go hmix ?_
      refine go_run' ttok 1 rfl ?_
      refine go_nil nd ?_
      refine then_norm ?_
      refine awp_ret ?_
      refine ret_ret ?_
      refine fin0 ttok rfl rfl ?_
      refine ⟨rfl, ?_⟩
      simp at c8
      rw [checkL, if_neg (by omega), firstNZ_zero (by simpa [hk'] using hz)]

theorem rcheckL_h (l : List Df) (hl : l.length ≤ 9223372036854775807) : Holds Try.prog 26 [.sl (l.map encDf)] [] (I (checkL l)) [] := by
  refine holds_fn Try.func26 rfl Try.ntmps26 rfl rfl rfl ?_
  refine awp_seq ?_
  refine awp_go hmix ?_
  refine go_run' ttok 1 rfl ?_
  refine go_nil nd ?_
  refine then_norm ?_
  refine awp_seq ?_
  refine awp_seq ?_
  refine awp_go hmix ?_
  refine go_run' ttok 3 rfl ?_
  refine go_nil nd ?_
  refine then_norm ?_
  refine awp_cond rfl (fun c6 => ?_) (fun c6 => ?_)
  · skip
    refine awp_seq ?_
    refine awp_go hmix ?_
    refine go_run' ttok 1 rfl ?_
    refine go_nil nd ?_
    refine then_norm ?_
    refine awp_ret ?_
    refine then_ret ?_
    refine ret_ret ?_
    refine fin0 ttok rfl rfl ?_
    refine ⟨rfl, ?_⟩
    simp at c6
    rw [checkL, if_pos (by omega)]
  · skip
    refine awp_skip ?_
    refine then_norm ?_
    refine awp_seq ?_
    refine awp_seq ?_
    refine awp_go hmix ?_
    refine go_run' ttok 1 rfl ?_
    refine go_nil nd ?_
    refine then_norm ?_
    refine awp_block ?_
    refine awp_loopK (X := {k : Nat // k ≤ l.length ∧ ∀ d, d ∈ l.take k → dcheck d = 0}) [0] [] (fun x => [(3, I x.1)]) (fun x => []) (fun x => l.length - x.1) ⟨0, Nat.zero_le _, by simp⟩ [] ⟨rfl, rfl, rfl, rfl, rfl, ⟨⟨rfl, rfl⟩, trivial⟩, trivial⟩ (fun x => ?_)
    obtain ⟨k, hk, hz⟩ := x
    dsimp only
    refine awp_seq ?_
    refine awp_seq ?_
    refine awp_go hmix ?_
    refine go_run' ttok 4 rfl ?_
    refine go_nil nd ?_
    refine then_norm ?_
    refine awp_cond rfl (fun c10 => ?_) (fun c10 => ?_)
    · skip
      have hk' : k < l.length := by simpa using c10
      refine awp_skip ?_
      refine then_norm ?_
      refine awp_seq ?_
      refine awp_block ?_
      refine awp_block ?_
      refine awp_seq ?_
      refine awp_go hmix ?_
      refine go_run' ttok 2 rfl ?_
      refine go_index ttok (Int.natCast_nonneg _) (ev := encDf l[k]) (get_map hk') rfl rfl rfl rfl rfl rfl rfl rfl rfl ?_
      refine go_run' ttok 4 rfl ?_
      refine go_gcase rfl rfl rfl (fun g20 => ?_) (fun g20 => ?_)
      · rw [g20]
        refine go_run' ttok 8 rfl ?_
        refine go_nil nd ?_
        refine then_norm ?_
        refine awp_cond rfl (fun tt0 => ?_) (fun h => by cases h)
        clear tt0
        refine awp_seq ?_
        refine awp_go hmix ?_
        refine go_run' ttok 1 rfl ?_
        refine go_nil nd ?_
        refine then_norm ?_
        refine awp_ret ?_
        refine block_ret ?_
        refine block_ret ?_
        refine then_ret ?_
        refine then_ret ?_
        refine block_ret ?_
        refine then_ret ?_
        refine ret_ret ?_
        refine fin0 ttok rfl rfl ?_
        refine ⟨rfl, ?_⟩
        simp at c6
        rw [checkL, if_neg (by omega)]
        have h0 : dcheck l[k] = 10 := by rw [dcheck_eq, rdcheck]; simp [g20]
        rw [firstNZ_at hk' hz (by rw [h0]; decide), h0]
      · rw [g20]
        refine go_run' ttok 2 rfl ?_
        refine go_index ttok (Int.natCast_nonneg _) (ev := encDf l[k]) (get_map hk') rfl rfl rfl rfl rfl rfl rfl rfl rfl ?_
        refine go_run' ttok 5 rfl ?_
        refine go_nil nd ?_
        refine then_norm ?_
        refine awp_cond rfl (fun c13 => ?_) (fun c13 => ?_)
        · skip
          refine awp_seq ?_
          refine awp_go hmix ?_
          refine go_run' ttok 1 rfl ?_
          refine go_nil nd ?_
          refine then_norm ?_
          refine awp_ret ?_
          refine block_ret ?_
          refine block_ret ?_
          refine then_ret ?_
          refine then_ret ?_
          refine block_ret ?_
          refine then_ret ?_
          refine ret_ret ?_
          refine fin0 ttok rfl rfl ?_
          refine ⟨rfl, ?_⟩
          simp at c6
          rw [checkL, if_neg (by omega)]
          have h0 : dcheck l[k] = 10 := by rw [dcheck_eq, rdcheck]; simp [g20, c13]
          rw [firstNZ_at hk' hz (by rw [h0]; decide), h0]
        · skip
          refine awp_seq ?_
          refine awp_go hmix ?_
          refine go_run' ttok 2 rfl ?_
          refine go_index ttok (Int.natCast_nonneg _) (ev := encDf l[k]) (get_map hk') rfl rfl rfl rfl rfl rfl rfl rfl rfl ?_
          refine go_run' ttok 2 rfl ?_
          refine go_call fn50 (rempty_h _) rfl rfl rfl rfl rfl rfl rfl ?_
          refine go_run' ttok 1 rfl ?_
          refine go_nil nd ?_
          refine then_norm ?_
          refine awp_cond rfl (fun c28 => ?_) (fun c28 => ?_)
          · skip
            refine awp_seq ?_
            refine awp_go hmix ?_
            refine go_run' ttok 1 rfl ?_
            refine go_nil nd ?_
            refine then_norm ?_
            refine awp_ret ?_
            refine block_ret ?_
            refine block_ret ?_
            refine then_ret ?_
            refine then_ret ?_
            refine block_ret ?_
            refine then_ret ?_
            refine ret_ret ?_
            refine fin0 ttok rfl rfl ?_
            refine ⟨rfl, ?_⟩
            simp at c6
            rw [checkL, if_neg (by omega)]
            have h0 : dcheck l[k] = 19 := by rw [dcheck_eq, rdcheck]; simp [g20, c13, c28]
            rw [firstNZ_at hk' hz (by rw [h0]; decide), h0]
          · skip
            refine awp_seq ?_
            refine awp_go hmix ?_
            refine go_run' ttok 2 rfl ?_
            refine go_index ttok (Int.natCast_nonneg _) (ev := encDf l[k]) (get_map hk') rfl rfl rfl rfl rfl rfl rfl rfl rfl ?_
            refine go_run' ttok 2 rfl ?_
            refine go_call fn60 (ranged_h _) rfl rfl rfl rfl rfl rfl rfl ?_
            refine go_run' ttok 2 rfl ?_
            refine go_nil nd ?_
            refine then_norm ?_
            refine awp_cond rfl (fun c35 => ?_) (fun c35 => ?_)
            · skip
              refine awp_seq ?_
              refine awp_go hmix ?_
              refine go_run' ttok 1 rfl ?_
              refine go_nil nd ?_
              refine then_norm ?_
              refine awp_ret ?_
              refine block_ret ?_
              refine block_ret ?_
              refine then_ret ?_
              refine then_ret ?_
              refine block_ret ?_
              refine then_ret ?_
              refine ret_ret ?_
              refine fin0 ttok rfl rfl ?_
              refine ⟨rfl, ?_⟩
              simp at c6
              rw [checkL, if_neg (by omega)]
              have h0 : dcheck l[k] = 9 := by rw [dcheck_eq, rdcheck]; simp [g20, c13, c28, c35]
              rw [firstNZ_at hk' hz (by rw [h0]; decide), h0]
            · skip
              refine awp_skip ?_
              refine block_norm ?_
              refine block_norm ?_
              refine then_norm ?_
              refine awp_go hmix ?_
              refine go_run' ttok 3 rfl ?_
              refine go_nil nd ?_
              refine then_norm ⟨rfl, ⟨k + 1, hk', take_zero_succ hk' hz (by rw [dcheck_eq, rdcheck]; simp [g20, c13, c28, c35])⟩, [], ⟨rfl, rfl, rfl, rfl, rfl, ⟨⟨rfl, ?_⟩, trivial⟩, trivial⟩, ?_⟩
              · rw [w64_id' (by omega) (by omega)]
                rfl
              · dsimp only; omega
    · skip
      have hk' : k = l.length := by simp at c10; omega
      refine awp_exit ?_
      refine then_exit ?_
      refine then_exit ?_
      refine block_here ?_
      refine then_norm ?_
      refine awp_seq ?_
      refine awp_go hmix ?_
      refine go_run' ttok 1 rfl ?_
      refine go_nil nd ?_
      refine then_norm ?_
      refine awp_ret ?_
      refine ret_ret ?_
      refine fin0 ttok rfl rfl ?_
      refine ⟨rfl, ?_⟩
      simp at c6
      rw [checkL, if_neg (by omega), firstNZ_zero (by simpa [hk'] using hz)]

theorem foldl_take {α β : Type} {f : β → α → β} {a : β} {l : List α} {k : Nat} (hk : k < l.length) : (l.take (k + 1)).foldl f a = f ((l.take k).foldl f a) l[k] := by
  rw [take_succ_get hk, List.foldl_append]
  rfl
def cntF (kind n : Int) (d : Df) : Int := bif d.k == kind then IntKind.i64.wrap (n + 1) else n
def countD (l : List Df) (kind : Int) : Int := l.foldl (cntF kind) 0
def lrgF (kind n : Int) (d : Df) : Int := bif d.k == kind then max n (sizeD d) else n
def largestD (l : List Df) (kind : Int) : Int := l.foldl (lrgF kind) 0
def winF (z : Sp) (n : Int) (d : Df) : Int := bif knotD d && !emS (meet d.b.z z) then IntKind.i64.wrap (n + sizeD d) else n
def windowD (l : List Df) (z : Sp) : Int := l.foldl (winF z) 0
def zAt (d : Df) (w : Int) : Sp := ⟨IntKind.i64.wrap (IntKind.i64.wrap (d.b.z.a - w) + 1), IntKind.i64.wrap (IntKind.i64.wrap (IntKind.i64.wrap (d.b.z.a - w) + 1) + w)⟩
def worF (l : List Df) (w n : Int) (d : Df) : Int := max n (windowD l (zAt d w))
def worstD (l : List Df) (w : Int) : Int := bif (checkL l != 0) || (decide (w < 1) || decide (20000 < w)) then 0 else l.foldl (worF l w) 0
def Oks (l : List Df) : Prop := ∀ d, d ∈ l → d.ok
theorem Oks.at {l : List Df} (h : Oks l) {k : Nat} (hk : k < l.length) : (l[k]).ok := h _ (List.getElem_mem hk)


theorem count_h (l : List Df) (kind : Int) (hl : l.length ≤ 9223372036854775807) : Holds Try.prog 34 [.sl (l.map encDf), I kind] [] (I (countD l kind)) [] := by
  refine holds_fn Try.func34 rfl Try.ntmps34 rfl rfl rfl ?_
  refine awp_seq ?_
  refine awp_go hmix ?_
  refine go_run' ttok 1 rfl ?_
  refine go_nil nd ?_
  refine then_norm ?_
  refine awp_seq ?_
  refine awp_go hmix ?_
  refine go_run' ttok 1 rfl ?_
  refine go_nil nd ?_
  refine then_norm ?_
  refine awp_seq ?_
  refine awp_seq ?_
  refine awp_go hmix ?_
  refine go_run' ttok 3 rfl ?_
  refine go_nil nd ?_
  refine then_norm ?_
  refine awp_block ?_
  refine awp_loopK (X := {k : Nat // k ≤ l.length}) [1, 8, 9] [] (fun x => [(5, I ((l.take x.1).foldl (cntF kind) 0)), (10, I x.1)]) (fun x => []) (fun x => l.length - x.1) ⟨0, Nat.zero_le _⟩ [] ⟨rfl, rfl, rfl, rfl, rfl, ⟨⟨rfl, rfl⟩, ⟨rfl, rfl⟩, trivial⟩, trivial⟩ (fun x => ?_)
  obtain ⟨k, hk⟩ := x
  dsimp only
  refine awp_seq ?_
  refine awp_go hmix ?_
  refine go_run' ttok 1 rfl ?_
  refine go_nil nd ?_
  refine then_norm ?_
  refine awp_seq ?_
  refine awp_cond rfl (fun c11 => ?_) (fun c11 => ?_)
  · skip
    have hk' : k < l.length := by simpa using c11
    refine awp_skip ?_
    refine then_norm ?_
    refine awp_seq ?_
    refine awp_block ?_
    refine awp_seq ?_
    refine awp_go hmix ?_
    refine go_index ttok (Int.natCast_nonneg _) (ev := encDf l[k]) (get_map hk') rfl rfl rfl rfl rfl rfl rfl rfl rfl ?_
    refine go_run' ttok 3 rfl ?_
    refine go_nil nd ?_
    refine then_norm ?_
    refine awp_seq ?_
    refine awp_go hmix ?_
    refine go_run' ttok 4 rfl ?_
    refine go_nil nd ?_
    refine then_norm ?_
    refine awp_cond rfl (fun c17 => ?_) (fun c17 => ?_)
    · skip
      refine awp_go hmix ?_
      refine go_run' ttok 3 rfl ?_
      refine go_nil nd ?_
      refine block_norm ?_
      refine then_norm ?_
      refine awp_go hmix ?_
      refine go_run' ttok 2 rfl ?_
      refine go_nil nd ?_
      refine then_norm ⟨rfl, ⟨k + 1, hk'⟩, [], ⟨rfl, rfl, rfl, rfl, rfl, ⟨⟨rfl, ?_⟩, ⟨rfl, ?_⟩, trivial⟩, trivial⟩, ?_⟩
      · rw [foldl_take hk', cntF, c17]
        rfl
      · rw [w64_id' (by omega) (by omega)]
        rfl
      · dsimp only; omega
    · skip
      refine awp_skip ?_
      refine block_norm ?_
      refine then_norm ?_
      refine awp_go hmix ?_
      refine go_run' ttok 2 rfl ?_
      refine go_nil nd ?_
      refine then_norm ⟨rfl, ⟨k + 1, hk'⟩, [], ⟨rfl, rfl, rfl, rfl, rfl, ⟨⟨rfl, ?_⟩, ⟨rfl, ?_⟩, trivial⟩, trivial⟩, ?_⟩
      · rw [foldl_take hk', cntF, c17]
        rfl
      · rw [w64_id' (by omega) (by omega)]
        rfl
      · dsimp only; omega
  · skip
    have hk' : k = l.length := by simp at c11; omega
    refine awp_exit ?_
    refine then_exit ?_
    refine then_exit ?_
    refine block_here ?_
    refine then_norm ?_
    refine awp_seq ?_
    refine awp_go hmix ?_
    refine go_run' ttok 2 rfl ?_
    refine go_nil nd ?_
    refine then_norm ?_
    refine awp_ret ?_
    refine ret_ret ?_
    refine fin0 ttok rfl rfl ?_
    refine ⟨rfl, ?_⟩
    rw [hk', List.take_length]
    rfl

theorem rcount_h (l : List Df) (kind : Int) (hl : l.length ≤ 9223372036854775807) : Holds Try.prog 35 [.sl (l.map encDf), I kind] [] (I (countD l kind)) [] := by
  refine holds_fn Try.func35 rfl Try.ntmps35 rfl rfl rfl ?_
  refine awp_seq ?_
  refine awp_go hmix ?_
  refine go_run' ttok 1 rfl ?_
  refine go_nil nd ?_
  refine then_norm ?_
  refine awp_seq ?_
  refine awp_go hmix ?_
  refine go_run' ttok 1 rfl ?_
  refine go_nil nd ?_
  refine then_norm ?_
  refine awp_seq ?_
  refine awp_seq ?_
  refine awp_go hmix ?_
  refine go_run' ttok 1 rfl ?_
  refine go_nil nd ?_
  refine then_norm ?_
  refine awp_block ?_
  refine awp_loopK (X := {k : Nat // k ≤ l.length}) [0, 1] [] (fun x => [(5, I ((l.take x.1).foldl (cntF kind) 0)), (6, I x.1)]) (fun x => []) (fun x => l.length - x.1) ⟨0, Nat.zero_le _⟩ [] ⟨rfl, rfl, rfl, rfl, rfl, ⟨⟨rfl, rfl⟩, ⟨rfl, rfl⟩, trivial⟩, trivial⟩ (fun x => ?_)
  obtain ⟨k, hk⟩ := x
  dsimp only
  refine awp_seq ?_
  refine awp_seq ?_
  refine awp_go hmix ?_
  refine go_run' ttok 4 rfl ?_
  refine go_nil nd ?_
  refine then_norm ?_
  refine awp_cond rfl (fun c10 => ?_) (fun c10 => ?_)
  · skip
    have hk' : k < l.length := by simpa using c10
    refine awp_skip ?_
    refine then_norm ?_
    refine awp_seq ?_
    refine awp_block ?_
    refine awp_seq ?_
    refine awp_go hmix ?_
    refine go_run' ttok 2 rfl ?_
    refine go_index ttok (Int.natCast_nonneg _) (ev := encDf l[k]) (get_map hk') rfl rfl rfl rfl rfl rfl rfl rfl rfl ?_
    refine go_run' ttok 4 rfl ?_
    refine go_nil nd ?_
    refine then_norm ?_
    refine awp_cond rfl (fun c19 => ?_) (fun c19 => ?_)
    · skip
      refine awp_go hmix ?_
      refine go_run' ttok 3 rfl ?_
      refine go_nil nd ?_
      refine block_norm ?_
      refine then_norm ?_
      refine awp_go hmix ?_
      refine go_run' ttok 3 rfl ?_
      refine go_nil nd ?_
      refine then_norm ⟨rfl, ⟨k + 1, hk'⟩, [], ⟨rfl, rfl, rfl, rfl, rfl, ⟨⟨rfl, ?_⟩, ⟨rfl, ?_⟩, trivial⟩, trivial⟩, ?_⟩
      · rw [foldl_take hk', cntF, c19]
        rfl
      · rw [w64_id' (by omega) (by omega)]
        rfl
      · dsimp only; omega
    · skip
      refine awp_skip ?_
      refine block_norm ?_
      refine then_norm ?_
      refine awp_go hmix ?_
      refine go_run' ttok 3 rfl ?_
      refine go_nil nd ?_
      refine then_norm ⟨rfl, ⟨k + 1, hk'⟩, [], ⟨rfl, rfl, rfl, rfl, rfl, ⟨⟨rfl, ?_⟩, ⟨rfl, ?_⟩, trivial⟩, trivial⟩, ?_⟩
      · rw [foldl_take hk', cntF, c19]
        rfl
      · rw [w64_id' (by omega) (by omega)]
        rfl
      · dsimp only; omega
  · skip
    have hk' : k = l.length := by simp at c10; omega
    refine awp_exit ?_
    refine then_exit ?_
    refine then_exit ?_
    refine block_here ?_
    refine then_norm ?_
    refine awp_seq ?_
    refine awp_go hmix ?_
    refine go_run' ttok 2 rfl ?_
    refine go_nil nd ?_
    refine then_norm ?_
    refine awp_ret ?_
    refine ret_ret ?_
    refine fin0 ttok rfl rfl ?_
    refine ⟨rfl, ?_⟩
    rw [hk', List.take_length]
    rfl

theorem largest_h (l : List Df) (kind : Int) (hl : l.length ≤ 9223372036854775807) (ho : Oks l) : Holds Try.prog 36 [.sl (l.map encDf), I kind] [] (I (largestD l kind)) [] := by
  refine holds_fn Try.func36 rfl Try.ntmps36 rfl rfl rfl ?_
  refine awp_seq ?_
  refine awp_go hmix ?_
  refine go_run' ttok 1 rfl ?_
  refine go_nil nd ?_
  refine then_norm ?_
  refine awp_seq ?_
  refine awp_go hmix ?_
  refine go_run' ttok 1 rfl ?_
  refine go_nil nd ?_
  refine then_norm ?_
  refine awp_seq ?_
  refine awp_seq ?_
  refine awp_go hmix ?_
  refine go_run' ttok 3 rfl ?_
  refine go_nil nd ?_
  refine then_norm ?_
  refine awp_block ?_
  refine awp_loopK (X := {k : Nat // k ≤ l.length}) [1, 8, 9] [] (fun x => [(5, I ((l.take x.1).foldl (lrgF kind) 0)), (10, I x.1)]) (fun x => []) (fun x => l.length - x.1) ⟨0, Nat.zero_le _⟩ [] ⟨rfl, rfl, rfl, rfl, rfl, ⟨⟨rfl, rfl⟩, ⟨rfl, rfl⟩, trivial⟩, trivial⟩ (fun x => ?_)
  obtain ⟨k, hk⟩ := x
  dsimp only
  refine awp_seq ?_
  refine awp_go hmix ?_
  refine go_run' ttok 1 rfl ?_
  refine go_nil nd ?_
  refine then_norm ?_
  refine awp_seq ?_
  refine awp_cond rfl (fun c11 => ?_) (fun c11 => ?_)
  · skip
    have hk' : k < l.length := by simpa using c11
    refine awp_skip ?_
    refine then_norm ?_
    refine awp_seq ?_
    refine awp_block ?_
    refine awp_seq ?_
    refine awp_go hmix ?_
    refine go_index ttok (Int.natCast_nonneg _) (ev := encDf l[k]) (get_map hk') rfl rfl rfl rfl rfl rfl rfl rfl rfl ?_
    refine go_run' ttok 3 rfl ?_
    refine go_nil nd ?_
    refine then_norm ?_
    refine awp_seq ?_
    refine awp_go hmix ?_
    refine go_run' ttok 4 rfl ?_
    refine go_nil nd ?_
    refine then_norm ?_
    refine awp_cond rfl (fun c17 => ?_) (fun c17 => ?_)
    · skip
      have hok := ho.at hk'
      refine awp_go hmix ?_
      refine go_run' ttok 2 rfl ?_
      refine go_call fn31 (dsize_h _ (by assumption)) rfl rfl rfl rfl rfl rfl rfl ?_
      refine go_run' ttok 2 rfl ?_
      refine go_nil nd ?_
      refine block_norm ?_
      refine then_norm ?_
      refine awp_go hmix ?_
      refine go_run' ttok 2 rfl ?_
      refine go_nil nd ?_
      refine then_norm ⟨rfl, ⟨k + 1, hk'⟩, [], ⟨rfl, rfl, rfl, rfl, rfl, ⟨⟨rfl, ?_⟩, ⟨rfl, ?_⟩, trivial⟩, trivial⟩, ?_⟩
      · rw [foldl_take hk', lrgF, c17]
        rfl
      · rw [w64_id' (by omega) (by omega)]
        rfl
      · dsimp only; omega
    · skip
      refine awp_skip ?_
      refine block_norm ?_
      refine then_norm ?_
      refine awp_go hmix ?_
      refine go_run' ttok 2 rfl ?_
      refine go_nil nd ?_
      refine then_norm ⟨rfl, ⟨k + 1, hk'⟩, [], ⟨rfl, rfl, rfl, rfl, rfl, ⟨⟨rfl, ?_⟩, ⟨rfl, ?_⟩, trivial⟩, trivial⟩, ?_⟩
      · rw [foldl_take hk', lrgF, c17]
        rfl
      · rw [w64_id' (by omega) (by omega)]
        rfl
      · dsimp only; omega
  · skip
    have hk' : k = l.length := by simp at c11; omega
    refine awp_exit ?_
    refine then_exit ?_
    refine then_exit ?_
    refine block_here ?_
    refine then_norm ?_
    refine awp_seq ?_
    refine awp_go hmix ?_
    refine go_run' ttok 2 rfl ?_
    refine go_nil nd ?_
    refine then_norm ?_
    refine awp_ret ?_
    refine ret_ret ?_
    refine fin0 ttok rfl rfl ?_
    refine ⟨rfl, ?_⟩
    rw [hk', List.take_length]
    rfl

theorem rlargest_h (l : List Df) (kind : Int) (hl : l.length ≤ 9223372036854775807) (ho : Oks l) : Holds Try.prog 37 [.sl (l.map encDf), I kind] [] (I (largestD l kind)) [] := by
  refine holds_fn Try.func37 rfl Try.ntmps37 rfl rfl rfl ?_
  refine awp_seq ?_
  refine awp_go hmix ?_
  refine go_run' ttok 1 rfl ?_
  refine go_nil nd ?_
  refine then_norm ?_
  refine awp_seq ?_
  refine awp_go hmix ?_
  refine go_run' ttok 1 rfl ?_
  refine go_nil nd ?_
  refine then_norm ?_
  refine awp_seq ?_
  refine awp_seq ?_
  refine awp_go hmix ?_
  refine go_run' ttok 1 rfl ?_
  refine go_nil nd ?_
  refine then_norm ?_
  refine awp_block ?_
  refine awp_loopK (X := {k : Nat // k ≤ l.length}) [0, 1] [] (fun x => [(5, I ((l.take x.1).foldl (lrgF kind) 0)), (6, I x.1)]) (fun x => []) (fun x => l.length - x.1) ⟨0, Nat.zero_le _⟩ [] ⟨rfl, rfl, rfl, rfl, rfl, ⟨⟨rfl, rfl⟩, ⟨rfl, rfl⟩, trivial⟩, trivial⟩ (fun x => ?_)
  obtain ⟨k, hk⟩ := x
  dsimp only
  refine awp_seq ?_
  refine awp_seq ?_
  refine awp_go hmix ?_
  refine go_run' ttok 4 rfl ?_
  refine go_nil nd ?_
  refine then_norm ?_
  refine awp_cond rfl (fun c10 => ?_) (fun c10 => ?_)
  · skip
    have hk' : k < l.length := by simpa using c10
    refine awp_skip ?_
    refine then_norm ?_
    refine awp_seq ?_
    refine awp_block ?_
    refine awp_seq ?_
    refine awp_go hmix ?_
    refine go_run' ttok 2 rfl ?_
    refine go_index ttok (Int.natCast_nonneg _) (ev := encDf l[k]) (get_map hk') rfl rfl rfl rfl rfl rfl rfl rfl rfl ?_
    refine go_run' ttok 4 rfl ?_
    refine go_nil nd ?_
    refine then_norm ?_
    refine awp_cond rfl (fun c19 => ?_) (fun c19 => ?_)
    · skip
      have hok := ho.at hk'
      refine awp_go hmix ?_
      refine go_run' ttok 3 rfl ?_
      refine go_index ttok (Int.natCast_nonneg _) (ev := encDf l[k]) (get_map hk') rfl rfl rfl rfl rfl rfl rfl rfl rfl ?_
      refine go_run' ttok 1 rfl ?_
      refine go_call fn32 (rdsize_h _ (by assumption)) rfl rfl rfl rfl rfl rfl rfl ?_
      refine go_run' ttok 2 rfl ?_
      refine go_nil nd ?_
      refine block_norm ?_
      refine then_norm ?_
      refine awp_go hmix ?_
      refine go_run' ttok 3 rfl ?_
      refine go_nil nd ?_
      refine then_norm ⟨rfl, ⟨k + 1, hk'⟩, [], ⟨rfl, rfl, rfl, rfl, rfl, ⟨⟨rfl, ?_⟩, ⟨rfl, ?_⟩, trivial⟩, trivial⟩, ?_⟩
      · rw [foldl_take hk', lrgF, c19]
        rfl
      · rw [w64_id' (by omega) (by omega)]
        rfl
      · dsimp only; omega
    · skip
      refine awp_skip ?_
      refine block_norm ?_
      refine then_norm ?_
      refine awp_go hmix ?_
      refine go_run' ttok 3 rfl ?_
      refine go_nil nd ?_
      refine then_norm ⟨rfl, ⟨k + 1, hk'⟩, [], ⟨rfl, rfl, rfl, rfl, rfl, ⟨⟨rfl, ?_⟩, ⟨rfl, ?_⟩, trivial⟩, trivial⟩, ?_⟩
      · rw [foldl_take hk', lrgF, c19]
        rfl
      · rw [w64_id' (by omega) (by omega)]
        rfl
      · dsimp only; omega
  · skip
    have hk' : k = l.length := by simp at c10; omega
    refine awp_exit ?_
    refine then_exit ?_
    refine then_exit ?_
    refine block_here ?_
    refine then_norm ?_
    refine awp_seq ?_
    refine awp_go hmix ?_
    refine go_run' ttok 2 rfl ?_
    refine go_nil nd ?_
    refine then_norm ?_
    refine awp_ret ?_
    refine ret_ret ?_
    refine fin0 ttok rfl rfl ?_
    refine ⟨rfl, ?_⟩
    rw [hk', List.take_length]
    rfl

end Go.Proofs.Ytbgoflekklfdjaa
