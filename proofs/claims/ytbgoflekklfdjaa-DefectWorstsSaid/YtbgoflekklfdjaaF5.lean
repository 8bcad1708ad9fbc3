/- F5: what functions of the program compute (written by gen.py). -/
import Derived.Test.YtbgoflekklfdjaaF4
import Derived.Test.YtbgoflekklfdjaaSh
import Derived.KernelRfl
namespace Go.Proofs.Ytbgoflekklfdjaa
open Go Go.Ab
set_option linter.unusedSimpArgs false
set_option linter.unusedVariables false

theorem nr_df (l : List Df) : ∀ y ∈ l.map encDf, noref y = true := by
  intro y hy
  obtain ⟨d, _, rfl⟩ := List.mem_map.1 hy
  rfl
def backB (b q : Bx) : Bx := ⟨backS b.x q.x.a, backS b.y q.y.a, backS b.z q.z.a⟩
def clipOne (b : Bx) (d : Df) : Option Df := bif touchB d.b b then some ⟨d.k, backB (mbox d.b b) b⟩ else none
def b3 (b : Bx) : Nat → Sp
  | 0 => b.x
  | 1 => b.y
  | _ => b.z
theorem b3_succ {b : Bx} {k : Nat} (hz : ∀ i, i < k → insideB (b3 b i) (-1099511627776) 1099511627776 = true) (h : insideB (b3 b k) (-1099511627776) 1099511627776 = true) : ∀ i, i < k + 1 → insideB (b3 b i) (-1099511627776) 1099511627776 = true := by
  intro i hi
  by_cases e : i = k
  · rw [e]; exact h
  · exact hz i (by omega)
def okB (b : Bx) : Prop := ∀ i, i < 3 → insideB (b3 b i) (-1099511627776) 1099511627776 = true
instance (b : Bx) : Decidable (okB b) := inferInstanceAs (Decidable (∀ i, i < 3 → _))
def clipD (l : List Df) (b : Bx) : List Df := if checkL l = 0 ∧ okB b then l.filterMap (clipOne b) else []
theorem filterMap_take {α β : Type} {f : α → Option β} {l : List α} {k : Nat} (hk : k < l.length) : (l.take (k + 1)).filterMap f = (l.take k).filterMap f ++ (f l[k]).toList := by
  rw [take_succ_get hk, List.filterMap_append]
  cases h : f l[k] <;> simp [h]
theorem checkL_len {l : List Df} (h : checkL l = 0) : l.length ≤ 64 := by
  unfold checkL at h
  split at h
  · cases h
  · omega
theorem fm_len {l : List Df} {b : Bx} {k : Nat} (h : checkL l = 0) : (((l.take k).filterMap (clipOne b)).map encDf).length ≤ 64 := by
  have h1 := List.length_filterMap_le (clipOne b) (l.take k)
  have h2 := checkL_len h
  simp only [List.length_map, List.length_take] at *
  omega


theorem clip_h (l : List Df) (b : Bx) (hl : l.length ≤ 9223372036854775807) : Holds Try.prog 41 [.sl (l.map encDf), encBx b] [] (.sl ((clipD l b).map encDf)) [] := by
  refine holds_fnF Try.func41 rfl Try.ntmps41 rfl rfl ?_
  refine awp_seq ?_
  refine awp_go hmix ?_
  refine go_run' ttok 2 rfl ?_
  refine go_nil nd ?_
  refine then_norm ?_
  refine awp_seq ?_
  refine awp_seq ?_
  refine awp_go hmix ?_
  refine go_run' ttok 1 rfl ?_
  refine go_call fn33 (dcheckL_h _ (by assumption)) rfl rfl rfl rfl rfl rfl rfl ?_
  refine go_run' ttok 1 rfl ?_
  refine go_nil nd ?_
  refine then_norm ?_
  refine awp_cond rfl (fun c15 => ?_) (fun c15 => ?_)
  · skip
    refine awp_seq ?_
    refine awp_go hmix ?_
    refine go_run' ttok 1 rfl ?_
    refine go_nil nd ?_
    refine then_norm ?_
    refine awp_ret ?_
    refine then_ret ?_
    refine ret_ret ?_
    refine fin0F ttok rfl rfl ?_
    show List.map encDf (clipD l b) = []
    rw [clipD, if_neg (by rintro ⟨h, _⟩; simp [h] at c15)]
    rfl
  · skip
    refine awp_skip ?_
    refine then_norm ?_
    refine awp_seq ?_
    refine awp_seq ?_
    refine awp_go hmix ?_
    refine go_run' ttok 8 rfl ?_
    refine go_nil nd ?_
    refine then_norm ?_
    refine awp_block ?_
    refine awp_loopK (X := {k : Nat // k ≤ 3 ∧ ∀ i, i < k → insideB (b3 b i) (-1099511627776) 1099511627776 = true}) [0, 3, 22] [3] (fun x => [(23, I x.1)]) (fun x => []) (fun x => 3 - x.1) ⟨0, by omega, by intro i h; omega⟩ [(3, some 3)] ⟨rfl, rfl, rfl, rfl, rfl, ⟨⟨rfl, rfl⟩, trivial⟩, trivial⟩ (fun x => ?_)
    obtain ⟨k, hk, hz⟩ := x
    dsimp only
    refine awp_seq ?_
    refine awp_go hmix ?_
    refine go_run' ttok 1 rfl ?_
    refine go_nil nd ?_
    refine then_norm ?_
    refine awp_seq ?_
    refine awp_cond rfl (fun c24 => ?_) (fun c24 => ?_)
    · skip
      have hk' : k < 3 := by simp at c24; omega
      refine awp_skip ?_
      refine then_norm ?_
      refine awp_seq ?_
      refine awp_block ?_
      refine awp_seq ?_
      refine awp_go hmix ?_
      refine go_indexV (v := encSp (b3 b k)) ttok hk' ?_ rfl rfl rfl rfl rfl rfl rfl rfl ?_
      · match k, hk' with
        | 0, _ => rfl
        | 1, _ => rfl
        | 2, _ => rfl
      refine go_run' ttok 2 rfl ?_
      refine go_nil nd ?_
      refine then_norm ?_
      refine awp_seq ?_
      refine awp_go hmix ?_
      refine go_run' ttok 1 rfl ?_
      first
        | refine go_call fn63 (inside_h _ _ _) rfl rfl rfl rfl rfl rfl rfl ?_
        | refine go_call fn63 (inside_h_v1 _ _ _ _) rfl rfl rfl rfl rfl rfl rfl ?_
      refine go_run' ttok 1 rfl ?_
      refine go_nil nd ?_
      refine then_norm ?_
      refine awp_cond rfl (fun c28 => ?_) (fun c28 => ?_)
      · skip
        refine awp_seq ?_
        refine awp_go hmix ?_
        refine go_run' ttok 1 rfl ?_
        refine go_nil nd ?_
        refine then_norm ?_
        refine awp_ret ?_
        refine block_ret ?_
        refine then_ret ?_
        refine then_ret ?_
        refine block_ret ?_
        refine then_ret ?_
        refine ret_ret ?_
        refine fin0F ttok rfl rfl ?_
        show List.map encDf (clipD l b) = []
        rw [clipD, if_neg (by rintro ⟨_, h⟩; simp [h k hk'] at c28)]
        rfl
      · skip
        refine awp_skip ?_
        refine block_norm ?_
        refine then_norm ?_
        refine awp_go hmix ?_
        refine go_run' ttok 2 rfl ?_
        refine go_nil nd ?_
        refine then_norm ⟨rfl, ⟨k + 1, hk', b3_succ hz (by simpa using c28)⟩, [(3, some 3)], ⟨rfl, rfl, rfl, rfl, rfl, ⟨⟨rfl, ?_⟩, trivial⟩, trivial⟩, ?_⟩
        · rw [w64_id' (by omega) (by omega)]
          rfl
        · dsimp only; omega
    · skip
      have hb : okB b := by
        have : k = 3 := by simp at c24; omega
        subst this
        exact hz
      clear hz hk c24
      refine awp_exit ?_
      refine then_exit ?_
      refine then_exit ?_
      refine block_here ?_
      refine then_norm ?_
      refine awp_seq ?_
      refine awp_go hmix ?_
      refine go_run' ttok 1 rfl ?_
      refine go_nil nd ?_
      refine then_norm ?_
      refine awp_seq ?_
      refine awp_seq ?_
      refine awp_go hmix ?_
      refine go_run' ttok 3 rfl ?_
      refine go_nil nd ?_
      refine then_norm ?_
      refine awp_block ?_
      refine awp_loopK (X := {k : Nat // k ≤ l.length}) [3, 30, 31] [3] (fun x => [(7, .arr 7 0 (((l.take x.1).filterMap (clipOne b)).map encDf).length), (32, I x.1)]) (fun x => [(7, some ⟨41, 7, ((l.take x.1).filterMap (clipOne b)).map encDf⟩)]) (fun x => l.length - x.1) ⟨0, Nat.zero_le _⟩ [(7, none), (3, some 3)] ⟨rfl, rfl, rfl, rfl, rfl, ⟨⟨rfl, rfl, rfl⟩, ⟨rfl, rfl⟩, trivial⟩, ⟨rfl, trivial⟩⟩ (fun x => ?_)
      obtain ⟨k, hk⟩ := x
      dsimp only
      refine awp_seq ?_
      refine awp_go hmix ?_
      refine go_run' ttok 1 rfl ?_
      refine go_nil nd ?_
      refine then_norm ?_
      refine awp_seq ?_
      refine awp_cond rfl (fun c33 => ?_) (fun c33 => ?_)
      · skip
        have hk' : k < l.length := by simpa using c33
        refine awp_skip ?_
        refine then_norm ?_
        refine awp_seq ?_
        refine awp_block ?_
        refine awp_seq ?_
        refine awp_go hmix ?_
        refine go_index ttok (Int.natCast_nonneg _) (ev := encDf l[k]) (get_map hk') rfl rfl rfl rfl rfl rfl rfl rfl rfl ?_
        refine go_run' ttok 3 rfl ?_
        refine go_nil nd ?_
        refine then_norm ?_
        refine awp_seq ?_
        refine awp_go hmix ?_
        refine go_run' ttok 3 rfl ?_
        refine go_call fn62 (dmeet_h _ _) rfl rfl rfl rfl rfl rfl rfl ?_
        refine go_run' ttok 6 rfl ?_
        refine go_nil nd ?_
        refine then_norm ?_
        refine awp_seq ?_
        refine awp_go hmix ?_
        refine go_run' ttok 1 rfl ?_
        refine go_nil nd ?_
        refine then_norm ?_
        refine awp_cond rfl (fun c43 => ?_) (fun c43 => ?_)
        · skip
          refine awp_seq ?_
          refine awp_go hmix ?_
          refine go_run' ttok 5 rfl ?_
          first
            | refine go_call fn64 (back_h _ _) rfl rfl rfl rfl rfl rfl rfl ?_
            | refine go_call fn64 (back_h_v1 _ _ _) rfl rfl rfl rfl rfl rfl rfl ?_
          refine go_run' ttok 5 rfl ?_
          first
            | refine go_call fn64 (back_h _ _) rfl rfl rfl rfl rfl rfl rfl ?_
            | refine go_call fn64 (back_h_v1 _ _ _) rfl rfl rfl rfl rfl rfl rfl ?_
          refine go_run' ttok 5 rfl ?_
          first
            | refine go_call fn64 (back_h _ _) rfl rfl rfl rfl rfl rfl rfl ?_
            | refine go_call fn64 (back_h_v1 _ _ _) rfl rfl rfl rfl rfl rfl rfl ?_
          refine go_run' ttok 3 rfl ?_
          refine go_nil (fun _ => by kernel_rfl) ?_
          refine then_norm ?_
          refine awp_go hmix ?_
          refine go_run' ttok 6 rfl ?_
          refine go_append1 ttok rfl ?_ ?_ rfl rfl rfl rfl rfl rfl rfl rfl rfl rfl rfl rfl rfl rfl rfl rfl rfl rfl ?_
          · have := fm_len (b := b) (k := k) (by simpa using c15)
            show (_ + 1) * 56 ≤ 140737488355328
            omega
          · have := fm_len (b := b) (k := k) (by simpa using c15)
            omega
          refine go_run' ttok 1 rfl ?_
          refine go_nil nd ?_
          refine block_norm ?_
          refine then_norm ?_
          refine awp_go hmix ?_
          refine go_run' ttok 2 rfl ?_
          refine go_nil nd ?_
          refine then_norm ⟨rfl, ⟨k + 1, hk'⟩, [(7, some 69), (3, some 3)], ⟨rfl, rfl, rfl, rfl, rfl, ⟨⟨rfl, rfl, ?_⟩, ⟨rfl, ?_⟩, trivial⟩, ⟨⟨_, rfl, rfl, rfl, .inl ⟨?_, nr_df _⟩⟩, trivial⟩⟩, ?_⟩
          · rw [filterMap_take hk', clipOne, c43]
            simp
          · rw [w64_id' (by omega) (by omega)]
            rfl
          · rw [filterMap_take hk', clipOne, c43, List.map_append]
            rfl
          · dsimp only; omega
        · skip
          refine awp_skip ?_
          refine block_norm ?_
          refine then_norm ?_
          refine awp_go hmix ?_
          refine go_run' ttok 2 rfl ?_
          refine go_nil nd ?_
          refine then_norm ⟨rfl, ⟨k + 1, hk'⟩, [(7, some 7), (3, some 3)], ⟨rfl, rfl, rfl, rfl, rfl, ⟨⟨rfl, rfl, ?_⟩, ⟨rfl, ?_⟩, trivial⟩, ⟨⟨_, rfl, rfl, rfl, .inl ⟨?_, nr_df _⟩⟩, trivial⟩⟩, ?_⟩
          · rw [filterMap_take hk', clipOne, c43]
            simp
          · rw [w64_id' (by omega) (by omega)]
            rfl
          · rw [filterMap_take hk', clipOne, c43]
            simp
          · dsimp only; omega
      · skip
        have hk' : k = l.length := by simp at c33; omega
        refine awp_exit ?_
        refine then_exit ?_
        refine then_exit ?_
        refine block_here ?_
        refine then_norm ?_
        refine awp_seq ?_
        refine awp_go hmix ?_
        refine go_run' ttok 2 rfl ?_
        refine go_nil nd ?_
        refine then_norm ?_
        refine awp_ret ?_
        refine ret_ret ?_
        have e : clipD l b = (l.take k).filterMap (clipOne b) := by
          rw [clipD, if_pos ⟨by simpa using c15, hb⟩, hk', List.take_length]
        rw [e]
        exact finS rfl rfl rfl rfl (nr_df _)

theorem bounded_eq (s : Sp) : boundedS s = insideB s (-1099511627776) 1099511627776 := by
  unfold boundedS insideB
  simp only [← Bool.decide_and]
  exact decide_eq_decide.2 (by omega)
theorem okB_iff (b : Bx) : okB b ↔ boundedS b.x = true ∧ boundedS b.y = true ∧ boundedS b.z = true := by
  simp only [bounded_eq]
  constructor
  · intro h
    exact ⟨h 0 (by omega), h 1 (by omega), h 2 (by omega)⟩
  · rintro ⟨h0, h1, h2⟩ i hi
    match i, hi with
    | 0, _ => exact h0
    | 1, _ => exact h1
    | 2, _ => exact h2
theorem by_back {s t : Sp} (h : boundedS t = true) : byS s (IntKind.i64.wrap (0 - t.a)) = backS s t.a := by
  unfold boundedS at h
  simp only [Bool.and_eq_true, decide_eq_true_eq] at h
  rw [w64_id' (by omega) (by omega)]
  unfold byS backS
  rw [Int.zero_sub, ← Int.sub_eq_add_neg, ← Int.sub_eq_add_neg]
theorem move_back {p b : Bx} (h : okB b) : moveB p (IntKind.i64.wrap (0 - b.x.a)) (IntKind.i64.wrap (0 - b.y.a)) (IntKind.i64.wrap (0 - b.z.a)) = backB p b := by
  obtain ⟨h0, h1, h2⟩ := (okB_iff b).1 h
  unfold moveB backB
  rw [by_back h0, by_back h1, by_back h2]


theorem rclip_h (l : List Df) (b : Bx) (hl : l.length ≤ 9223372036854775807) : Holds Try.prog 42 [.sl (l.map encDf), encBx b] [] (.sl ((clipD l b).map encDf)) [] := by
  refine holds_fnF Try.func42 rfl Try.ntmps42 rfl rfl ?_
  refine awp_seq ?_
  refine awp_go hmix ?_
  refine go_run' ttok 2 rfl ?_
  refine go_nil nd ?_
  refine then_norm ?_
  refine awp_seq ?_
  refine awp_seq ?_
  refine awp_go hmix ?_
  refine go_run' ttok 1 rfl ?_
  refine go_call fn26 (rcheckL_h _ (by assumption)) rfl rfl rfl rfl rfl rfl rfl ?_
  refine go_run' ttok 2 rfl ?_
  refine go_gcase rfl rfl rfl (fun g10 => ?_) (fun g10 => ?_)
  · rw [g10]
    refine go_run' ttok 17 rfl ?_
    refine go_nil nd ?_
    refine then_norm ?_
    refine awp_cond rfl (fun tt0 => ?_) (fun h => by cases h)
    clear tt0
    refine awp_seq ?_
    refine awp_go hmix ?_
    refine go_run' ttok 1 rfl ?_
    refine go_nil nd ?_
    refine then_norm ?_
    refine awp_ret ?_
    refine then_ret ?_
    refine ret_ret ?_
    refine fin0F ttok rfl rfl ?_
    show List.map encDf (clipD l b) = []
    rw [clipD, if_neg (by rintro ⟨h, _⟩; simp [h] at g10)]
    rfl
  · rw [g10]
    refine go_run' ttok 2 rfl ?_
    first
      | refine go_call fn65 (rbounded_h _) rfl rfl rfl rfl rfl rfl rfl ?_
      | refine go_call fn65 (rbounded_h_v1 _ _) rfl rfl rfl rfl rfl rfl rfl ?_
    refine go_run' ttok 3 rfl ?_
    refine go_gcase rfl rfl rfl (fun g16 => ?_) (fun g16 => ?_)
    · rw [g16]
      refine go_run' ttok 11 rfl ?_
      refine go_nil nd ?_
      refine then_norm ?_
      refine awp_cond rfl (fun tt0 => ?_) (fun h => by cases h)
      clear tt0
      refine awp_seq ?_
      refine awp_go hmix ?_
      refine go_run' ttok 1 rfl ?_
      refine go_nil nd ?_
      refine then_norm ?_
      refine awp_ret ?_
      refine then_ret ?_
      refine ret_ret ?_
      refine fin0F ttok rfl rfl ?_
      show List.map encDf (clipD l b) = []
      rw [clipD, if_neg (by rintro ⟨_, h⟩; have := (okB_iff b).1 h; simp [this] at g16)]
      rfl
    · rw [g16]
      refine go_run' ttok 2 rfl ?_
      first
        | refine go_call fn65 (rbounded_h _) rfl rfl rfl rfl rfl rfl rfl ?_
        | refine go_call fn65 (rbounded_h_v1 _ _) rfl rfl rfl rfl rfl rfl rfl ?_
      refine go_run' ttok 3 rfl ?_
      refine go_gcase rfl rfl rfl (fun g22 => ?_) (fun g22 => ?_)
      · rw [g22]
        refine go_run' ttok 5 rfl ?_
        refine go_nil nd ?_
        refine then_norm ?_
        refine awp_cond rfl (fun tt0 => ?_) (fun h => by cases h)
        clear tt0
        refine awp_seq ?_
        refine awp_go hmix ?_
        refine go_run' ttok 1 rfl ?_
        refine go_nil nd ?_
        refine then_norm ?_
        refine awp_ret ?_
        refine then_ret ?_
        refine ret_ret ?_
        refine fin0F ttok rfl rfl ?_
        show List.map encDf (clipD l b) = []
        rw [clipD, if_neg (by rintro ⟨_, h⟩; have := (okB_iff b).1 h; simp [this] at g22)]
        rfl
      · rw [g22]
        refine go_run' ttok 2 rfl ?_
        first
          | refine go_call fn65 (rbounded_h _) rfl rfl rfl rfl rfl rfl rfl ?_
          | refine go_call fn65 (rbounded_h_v1 _ _) rfl rfl rfl rfl rfl rfl rfl ?_
        refine go_run' ttok 2 rfl ?_
        refine go_nil nd ?_
        refine then_norm ?_
        refine awp_cond rfl (fun c27 => ?_) (fun c27 => ?_)
        · skip
          refine awp_seq ?_
          refine awp_go hmix ?_
          refine go_run' ttok 1 rfl ?_
          refine go_nil nd ?_
          refine then_norm ?_
          refine awp_ret ?_
          refine then_ret ?_
          refine ret_ret ?_
          refine fin0F ttok rfl rfl ?_
          show List.map encDf (clipD l b) = []
          rw [clipD, if_neg (by rintro ⟨_, h⟩; have := (okB_iff b).1 h; simp [this] at c27)]
          rfl
        · skip
          refine awp_skip ?_
          refine then_norm ?_
          refine awp_seq ?_
          refine awp_go hmix ?_
          refine go_run' ttok 1 rfl ?_
          refine go_nil nd ?_
          refine then_norm ?_
          refine awp_seq ?_
          refine awp_seq ?_
          refine awp_go hmix ?_
          refine go_run' ttok 1 rfl ?_
          refine go_nil nd ?_
          refine then_norm ?_
          refine awp_block ?_
          have hb : okB b := (okB_iff b).2 ⟨by simpa using g16, by simpa using g22, by simpa using c27⟩
          refine awp_loopK (X := {k : Nat // k ≤ l.length}) [0, 3] [3] (fun x => [(5, .arr 5 0 (((l.take x.1).filterMap (clipOne b)).map encDf).length), (6, I x.1)]) (fun x => [(5, some ⟨41, 7, ((l.take x.1).filterMap (clipOne b)).map encDf⟩)]) (fun x => l.length - x.1) ⟨0, Nat.zero_le _⟩ [(5, none), (3, some 3)] ⟨rfl, rfl, rfl, rfl, rfl, ⟨⟨rfl, rfl, rfl⟩, ⟨rfl, rfl⟩, trivial⟩, ⟨rfl, trivial⟩⟩ (fun x => ?_)
          obtain ⟨k, hk⟩ := x
          dsimp only
          refine awp_seq ?_
          refine awp_seq ?_
          refine awp_go hmix ?_
          refine go_run' ttok 4 rfl ?_
          refine go_nil nd ?_
          refine then_norm ?_
          refine awp_cond rfl (fun c31 => ?_) (fun c31 => ?_)
          · skip
            have hk' : k < l.length := by simpa using c31
            refine awp_skip ?_
            refine then_norm ?_
            refine awp_seq ?_
            refine awp_block ?_
            refine awp_seq ?_
            refine awp_go hmix ?_
            refine go_run' ttok 2 rfl ?_
            refine go_index ttok (Int.natCast_nonneg _) (ev := encDf l[k]) (get_map hk') rfl rfl rfl rfl rfl rfl rfl rfl rfl ?_
            refine go_run' ttok 2 rfl ?_
            refine go_call fn39 (rtouches_h _ _) rfl rfl rfl rfl rfl rfl rfl ?_
            refine go_nil (fun _ => by kernel_rfl) ?_
            refine then_norm ?_
            refine awp_cond rfl (fun c39 => ?_) (fun c39 => ?_)
            · skip
              refine awp_go hmix ?_
              refine go_run' ttok 3 rfl ?_
              refine go_index ttok (Int.natCast_nonneg _) (ev := encDf l[k]) (get_map hk') rfl rfl rfl rfl rfl rfl rfl rfl rfl ?_
              refine go_run' ttok 4 rfl ?_
              refine go_index ttok (Int.natCast_nonneg _) (ev := encDf l[k]) (get_map hk') rfl rfl rfl rfl rfl rfl rfl rfl rfl ?_
              refine go_run' ttok 3 rfl ?_
              refine go_call fn49 (rbmeet_h _ _) rfl rfl rfl rfl rfl rfl rfl ?_
              refine go_run' ttok 12 rfl ?_
              refine go_call fn51 (rmove_h _ _ _ _) rfl rfl rfl rfl rfl rfl rfl ?_
              refine go_run' ttok 2 rfl ?_
              refine go_append1 ttok rfl ?_ ?_ rfl rfl rfl rfl rfl rfl rfl rfl rfl rfl rfl rfl rfl rfl rfl rfl rfl rfl ?_
              · have := fm_len (b := b) (k := k) (by simpa using g10)
                show (_ + 1) * 56 ≤ 140737488355328
                omega
              · have := fm_len (b := b) (k := k) (by simpa using g10)
                omega
              refine go_run' ttok 1 rfl ?_
              refine go_nil (fun _ => by kernel_rfl) ?_
              refine block_norm ?_
              refine then_norm ?_
              refine awp_go hmix ?_
              refine go_run' ttok 3 rfl ?_
              refine go_nil nd ?_
              refine then_norm ⟨rfl, ⟨k + 1, hk'⟩, [(5, some 68), (3, some 3)], ⟨rfl, rfl, rfl, rfl, rfl, ⟨⟨rfl, rfl, ?_⟩, ⟨rfl, ?_⟩, trivial⟩, ⟨⟨_, rfl, rfl, rfl, .inl ⟨?_, nr_df _⟩⟩, trivial⟩⟩, ?_⟩
              · rw [filterMap_take hk', clipOne, c39]
                simp
              · rw [w64_id' (by omega) (by omega)]
                rfl
              · rw [filterMap_take hk', clipOne, c39, List.map_append, mbox, c39, cond_true, cond_true, ← move_back hb]
                rfl
              · dsimp only; omega
            · skip
              refine awp_skip ?_
              refine block_norm ?_
              refine then_norm ?_
              refine awp_go hmix ?_
              refine go_run' ttok 3 rfl ?_
              refine go_nil nd ?_
              refine then_norm ⟨rfl, ⟨k + 1, hk'⟩, [(5, some 5), (3, some 3)], ⟨rfl, rfl, rfl, rfl, rfl, ⟨⟨rfl, rfl, ?_⟩, ⟨rfl, ?_⟩, trivial⟩, ⟨⟨_, rfl, rfl, rfl, .inl ⟨?_, nr_df _⟩⟩, trivial⟩⟩, ?_⟩
              · rw [filterMap_take hk', clipOne, c39]
                simp
              · rw [w64_id' (by omega) (by omega)]
                rfl
              · rw [filterMap_take hk', clipOne, c39]
                simp
              · dsimp only; omega
          · skip
            have hk' : k = l.length := by simp at c31; omega
            refine awp_exit ?_
            refine then_exit ?_
            refine then_exit ?_
            refine block_here ?_
            refine then_norm ?_
            refine awp_seq ?_
            refine awp_go hmix ?_
            refine go_run' ttok 2 rfl ?_
            refine go_nil nd ?_
            refine then_norm ?_
            refine awp_ret ?_
            refine ret_ret ?_
            have e : clipD l b = (l.take k).filterMap (clipOne b) := by
              rw [clipD, if_pos ⟨by simpa using g10, hb⟩, hk', List.take_length]
            rw [e]
            exact finS rfl rfl rfl rfl (nr_df _)

def turn1 (d : Df) : Df := ⟨d.k, quarterB d.b⟩
def turnN : Nat → Df → Df
  | 0, d => d
  | n + 1, d => turn1 (turnN n d)
def zeroD : Df := ⟨0, zeroB⟩
def turnQ (q : Int) (d : Df) : Df := turnN (quartersI q).toNat d
def turnD (l : List Df) (q : Int) : List Df := if checkL l = 0 then l.map (turnQ q) else []
theorem quartersI_lo (q : Int) : 0 ≤ quartersI q ∧ quartersI q < 4 := by
  unfold quartersI
  have h1 := Int.lt_tmod_of_pos q (b := 4) (by omega)
  have h2 := Int.tmod_lt_of_pos q (b := 4) (by omega)
  rw [w64_id' (by omega) (by omega)]
  exact ⟨Int.tmod_nonneg _ (by omega), Int.tmod_lt_of_pos _ (by omega)⟩
def turnX (l : List Df) (q : Int) (k : Nat) : List Df := (l.take k).map (turnQ q) ++ List.replicate (l.length - k) zeroD
theorem turnX_get {l : List Df} {q : Int} {k : Nat} (hk : k < l.length) : ((turnX l q k).map encDf)[k]? = some (encDf zeroD) := by
  have hl : ((l.take k).map (turnQ q)).length = k := by simp; omega
  rw [List.getElem?_map, turnX, List.getElem?_append_right (by omega), hl, Nat.sub_self]
  rw [List.getElem?_replicate, if_pos (by omega)]
  rfl
theorem turnX_set {l : List Df} {q : Int} {k : Nat} (hk : k < l.length) : ((turnX l q k).map encDf).set k (encDf (turnQ q l[k])) = (turnX l q (k + 1)).map encDf := by
  have hl : ((l.take k).map (turnQ q)).length = k := by simp; omega
  rw [← List.map_set]
  congr 1
  rw [turnX, turnX, List.set_append_right _ _ (by omega), hl, Nat.sub_self, take_succ_get hk, List.map_append, List.append_assoc]
  congr 1
  rw [show l.length - k = (l.length - (k + 1)) + 1 by omega, List.replicate_succ]
  rfl


theorem turn_h (l : List Df) (q : Int) (hl : l.length ≤ 9223372036854775807) : Holds Try.prog 43 [.sl (l.map encDf), I q] [] (.sl ((turnD l q).map encDf)) [] := by
  refine holds_fnF Try.func43 rfl Try.ntmps43 rfl rfl ?_
  refine awp_seq ?_
  refine awp_go hmix ?_
  refine go_run' ttok 1 rfl ?_
  refine go_nil nd ?_
  refine then_norm ?_
  refine awp_seq ?_
  refine awp_seq ?_
  refine awp_go hmix ?_
  refine go_run' ttok 1 rfl ?_
  refine go_call fn33 (dcheckL_h _ (by assumption)) rfl rfl rfl rfl rfl rfl rfl ?_
  refine go_run' ttok 1 rfl ?_
  refine go_nil nd ?_
  refine then_norm ?_
  refine awp_cond rfl (fun c10 => ?_) (fun c10 => ?_)
  · skip
    refine awp_seq ?_
    refine awp_go hmix ?_
    refine go_run' ttok 1 rfl ?_
    refine go_nil nd ?_
    refine then_norm ?_
    refine awp_ret ?_
    refine then_ret ?_
    refine ret_ret ?_
    refine fin0F ttok rfl rfl ?_
    show List.map encDf (turnD l q) = []
    rw [turnD, if_neg (by intro h; simp [h] at c10)]
    rfl
  · skip
    refine awp_skip ?_
    refine then_norm ?_
    refine awp_seq ?_
    refine awp_go hmix ?_
    refine go_run' ttok 5 rfl ?_
    refine go_nil nd ?_
    refine then_norm ?_
    refine awp_seq ?_
    refine awp_go hmix ?_
    refine go_run' ttok 2 rfl ?_
    refine go_make (len := (l.map encDf).length) ttok ?_ ?_ rfl rfl rfl rfl rfl rfl rfl rfl rfl rfl rfl rfl ?_
    · have := checkL_len (l := l) (by simpa using c10)
      show _ * 56 ≤ 281474976710656
      rw [List.length_map]
      omega
    · rw [List.length_map]
      exact hl
    refine go_run' ttok 1 rfl ?_
    refine go_nil nd ?_
    refine then_norm ?_
    refine awp_seq ?_
    refine awp_seq ?_
    refine awp_go hmix ?_
    refine go_run' ttok 3 rfl ?_
    refine go_nil nd ?_
    refine then_norm ?_
    refine awp_block ?_
    refine awp_loopK (X := {k : Nat // k ≤ l.length}) [1, 5, 18, 19] [] (fun x => [(20, I x.1)]) (fun x => [(17, some ⟨41, 7, (turnX l q x.1).map encDf⟩)]) (fun x => l.length - x.1) ⟨0, Nat.zero_le _⟩ [(17, some 17)] ⟨rfl, rfl, rfl, rfl, rfl, ⟨⟨rfl, rfl⟩, trivial⟩, ⟨⟨_, rfl, rfl, rfl, .inl ⟨?_, nr_df _⟩⟩, trivial⟩⟩ (fun x => ?_)
    · simp [turnX]
      exact .inr rfl
    obtain ⟨k, hk⟩ := x
    dsimp only
    refine awp_seq ?_
    refine awp_go hmix ?_
    refine go_run' ttok 1 rfl ?_
    refine go_nil nd ?_
    refine then_norm ?_
    refine awp_seq ?_
    refine awp_cond rfl (fun c21 => ?_) (fun c21 => ?_)
    · skip
      have hk' : k < l.length := by simpa using c21
      refine awp_skip ?_
      refine then_norm ?_
      refine awp_seq ?_
      refine awp_block ?_
      refine awp_seq ?_
      refine awp_go hmix ?_
      refine go_run' ttok 1 rfl ?_
      refine go_index ttok (Int.natCast_nonneg _) (ev := encDf l[k]) (get_map hk') rfl rfl rfl rfl rfl rfl rfl rfl rfl ?_
      refine go_run' ttok 4 rfl ?_
      refine go_nil nd ?_
      refine then_norm ?_
      refine awp_seq ?_
      refine awp_seq ?_
      refine awp_go hmix ?_
      refine go_run' ttok 2 rfl ?_
      refine go_nil nd ?_
      refine then_norm ?_
      refine awp_block ?_
      refine awp_loopK (X := {j : Nat // j ≤ (quartersI q).toNat}) [1, 5, 6, 7, 18, 19, 20, 25] [] (fun x => [(26, I x.1)]) (fun x => [(7, some ⟨41, 7, [l[k]].map (fun d => encDf (turnN x.1 d))⟩), (17, some ⟨41, 7, (turnX l q k).map encDf⟩)]) (fun x => (quartersI q).toNat - x.1) ⟨0, Nat.zero_le _⟩ [(7, some 7), (17, some 17)] ⟨rfl, rfl, rfl, rfl, rfl, ⟨⟨rfl, rfl⟩, trivial⟩, ⟨⟨_, rfl, rfl, rfl, .inl ⟨rfl, nr_df [_]⟩⟩, ⟨_, rfl, rfl, rfl, .inl ⟨rfl, nr_df _⟩⟩, trivial⟩⟩ (fun x => ?_)
      obtain ⟨j, hj⟩ := x
      dsimp only
      refine awp_seq ?_
      refine awp_go hmix ?_
      refine go_run' ttok 1 rfl ?_
      refine go_nil nd ?_
      refine then_norm ?_
      refine awp_seq ?_
      refine awp_cond rfl (fun c27 => ?_) (fun c27 => ?_)
      · skip
        have hq := quartersI_lo q
        have hj' : j < (quartersI q).toNat := by
          have h1 : (j : Int) < quartersI q := of_decide_eq_true c27
          omega
        refine awp_skip ?_
        refine then_norm ?_
        refine awp_seq ?_
        refine awp_block ?_
        refine awp_go hmix ?_
        refine go_run' ttok 20 rfl ?_
        refine go_nil nd ?_
        refine block_norm ?_
        refine then_norm ?_
        refine awp_go hmix ?_
        refine go_run' ttok 2 rfl ?_
        refine go_nil nd ?_
        refine then_norm ⟨rfl, ⟨j + 1, hj'⟩, [(7, some 7), (17, some 17)], ⟨rfl, rfl, rfl, rfl, rfl, ⟨⟨rfl, ?_⟩, trivial⟩, ⟨⟨_, rfl, rfl, rfl, .inl ⟨rfl, nr_df [_]⟩⟩, ⟨_, rfl, rfl, rfl, .inl ⟨rfl, nr_df _⟩⟩, trivial⟩⟩, ?_⟩
        · rw [w64_id' (by omega) (by omega)]
          rfl
        · dsimp only; omega
      · skip
        have hj' : j = (quartersI q).toNat := by
          have h1 : ¬ (j : Int) < quartersI q := of_decide_eq_false c27
          omega
        refine awp_exit ?_
        refine then_exit ?_
        refine then_exit ?_
        refine block_here ?_
        refine then_norm ?_
        refine awp_go hmix ?_
        refine go_run' ttok 3 rfl ?_
        refine go_indexA (i := k) ttok (by simpa using hk') rfl rfl rfl rfl rfl rfl rfl rfl rfl rfl ?_
        refine go_storeA (e := encDf zeroD) (e' := encDf (turnN j l[k])) ttok (turnX_get hk') rfl rfl rfl rfl rfl rfl rfl rfl rfl rfl rfl rfl ?_
        refine go_nil nd ?_
        refine block_norm ?_
        refine then_norm ?_
        refine awp_go hmix ?_
        refine go_run' ttok 2 rfl ?_
        refine go_nil nd ?_
        refine then_norm ⟨rfl, ⟨k + 1, hk'⟩, [(17, some 17)], ⟨rfl, rfl, rfl, rfl, rfl, ⟨⟨rfl, ?_⟩, trivial⟩, ⟨⟨_, rfl, rfl, rfl, .inl ⟨?_, nr_df _⟩⟩, trivial⟩⟩, ?_⟩
        · rw [w64_id' (by omega) (by omega)]
          rfl
        · rw [← turnX_set hk', hj']
          rfl
        · dsimp only; omega
    · skip
      have hk' : k = l.length := by simp at c21; omega
      refine awp_exit ?_
      refine then_exit ?_
      refine then_exit ?_
      refine block_here ?_
      refine then_norm ?_
      refine awp_seq ?_
      refine awp_go hmix ?_
      refine go_run' ttok 2 rfl ?_
      refine go_nil nd ?_
      refine then_norm ?_
      refine awp_ret ?_
      refine ret_ret ?_
      have e : turnD l q = turnX l q k := by
        rw [turnD, if_pos (by simpa using c10), hk', turnX, List.take_length, Nat.sub_self]
        simp
      rw [e]
      exact finS rfl rfl rfl (by rw [List.length_map, List.length_map, turnX]; simp; omega) (nr_df _)

theorem rturn_h (l : List Df) (q : Int) (hl : l.length ≤ 9223372036854775807) : Holds Try.prog 44 [.sl (l.map encDf), I q] [] (.sl ((turnD l q).map encDf)) [] := by
  refine holds_fnF Try.func44 rfl Try.ntmps44 rfl rfl ?_
  refine awp_seq ?_
  refine awp_go hmix ?_
  refine go_run' ttok 1 rfl ?_
  refine go_nil nd ?_
  refine then_norm ?_
  refine awp_seq ?_
  refine awp_seq ?_
  refine awp_go hmix ?_
  refine go_run' ttok 1 rfl ?_
  refine go_call fn26 (rcheckL_h _ (by assumption)) rfl rfl rfl rfl rfl rfl rfl ?_
  refine go_run' ttok 1 rfl ?_
  refine go_nil nd ?_
  refine then_norm ?_
  refine awp_cond rfl (fun c11 => ?_) (fun c11 => ?_)
  · skip
    refine awp_seq ?_
    refine awp_go hmix ?_
    refine go_run' ttok 1 rfl ?_
    refine go_nil nd ?_
    refine then_norm ?_
    refine awp_ret ?_
    refine then_ret ?_
    refine ret_ret ?_
    refine fin0F ttok rfl rfl ?_
    show List.map encDf (turnD l q) = []
    rw [turnD, if_neg (by intro h; simp [h] at c11)]
    rfl
  · skip
    refine awp_skip ?_
    refine then_norm ?_
    refine awp_seq ?_
    refine awp_go hmix ?_
    refine go_run' ttok 1 rfl ?_
    refine go_nil nd ?_
    refine then_norm ?_
    refine awp_seq ?_
    refine awp_seq ?_
    refine awp_go hmix ?_
    refine go_run' ttok 1 rfl ?_
    refine go_nil nd ?_
    refine then_norm ?_
    refine awp_block ?_
    refine awp_loopK (X := {k : Nat // k ≤ l.length}) [0, 1] [] (fun x => [(5, .arr 5 0 (((l.take x.1).map (turnQ q)).map encDf).length), (6, I x.1)]) (fun x => [(5, some ⟨41, 7, ((l.take x.1).map (turnQ q)).map encDf⟩)]) (fun x => l.length - x.1) ⟨0, Nat.zero_le _⟩ [(5, none)] ⟨rfl, rfl, rfl, rfl, rfl, ⟨⟨rfl, rfl, rfl⟩, ⟨rfl, rfl⟩, trivial⟩, ⟨rfl, trivial⟩⟩ (fun x => ?_)
    obtain ⟨k, hk⟩ := x
    dsimp only
    refine awp_seq ?_
    refine awp_seq ?_
    refine awp_go hmix ?_
    refine go_run' ttok 4 rfl ?_
    refine go_nil nd ?_
    refine then_norm ?_
    refine awp_cond rfl (fun c15 => ?_) (fun c15 => ?_)
    · skip
      have hk' : k < l.length := by simpa using c15
      refine awp_skip ?_
      refine then_norm ?_
      refine awp_seq ?_
      refine awp_block ?_
      refine awp_seq ?_
      refine awp_go hmix ?_
      refine go_run' ttok 2 rfl ?_
      refine go_index ttok (Int.natCast_nonneg _) (ev := encDf l[k]) (get_map hk') rfl rfl rfl rfl rfl rfl rfl rfl rfl ?_
      refine go_run' ttok 3 rfl ?_
      refine go_nil nd ?_
      refine then_norm ?_
      refine awp_seq ?_
      refine awp_seq ?_
      refine awp_go hmix ?_
      refine go_run' ttok 1 rfl ?_
      refine go_nil nd ?_
      refine then_norm ?_
      refine awp_block ?_
      refine awp_loopK (X := {j : Nat // j ≤ (quartersI q).toNat}) [0, 1, 5, 6, 7] [] (fun x => [(8, I x.1)]) (fun x => [(7, some ⟨41, 7, [l[k]].map (fun d => encDf (turnN x.1 d))⟩), (5, some ⟨41, 7, ((l.take k).map (turnQ q)).map encDf⟩)]) (fun x => (quartersI q).toNat - x.1) ⟨0, Nat.zero_le _⟩ [(7, some 7), (5, some 5)] ⟨rfl, rfl, rfl, rfl, rfl, ⟨⟨rfl, rfl⟩, trivial⟩, ⟨⟨_, rfl, rfl, rfl, .inl ⟨rfl, nr_df [_]⟩⟩, ⟨_, rfl, rfl, rfl, .inl ⟨rfl, nr_df _⟩⟩, trivial⟩⟩ (fun x => ?_)
      obtain ⟨j, hj⟩ := x
      dsimp only
      refine awp_seq ?_
      refine awp_seq ?_
      refine awp_go hmix ?_
      refine go_run' ttok 2 rfl ?_
      refine go_call fn66 (quarters_h _) rfl rfl rfl rfl rfl rfl rfl ?_
      refine go_run' ttok 1 rfl ?_
      refine go_nil nd ?_
      refine then_norm ?_
      refine awp_cond rfl (fun c25 => ?_) (fun c25 => ?_)
      · skip
        have hq := quartersI_lo q
        have hj' : j < (quartersI q).toNat := by
          have h1 : (j : Int) < quartersI q := of_decide_eq_true c25
          omega
        refine awp_skip ?_
        refine then_norm ?_
        refine awp_seq ?_
        refine awp_block ?_
        refine awp_go hmix ?_
        refine go_run' ttok 2 rfl ?_
        refine go_call fn67 (rquarter_h _) rfl rfl rfl rfl rfl rfl rfl ?_
        refine go_run' ttok 2 rfl ?_
        refine go_nil nd ?_
        refine block_norm ?_
        refine then_norm ?_
        refine awp_go hmix ?_
        refine go_run' ttok 3 rfl ?_
        refine go_nil nd ?_
        refine then_norm ⟨rfl, ⟨j + 1, hj'⟩, [(7, some 7), (5, some 5)], ⟨rfl, rfl, rfl, rfl, rfl, ⟨⟨rfl, ?_⟩, trivial⟩, ⟨⟨_, rfl, rfl, rfl, .inl ⟨rfl, nr_df [_]⟩⟩, ⟨_, rfl, rfl, rfl, .inl ⟨rfl, nr_df _⟩⟩, trivial⟩⟩, ?_⟩
        · rw [w64_id' (by omega) (by omega)]
          rfl
        · dsimp only; omega
      · skip
        have hj' : j = (quartersI q).toNat := by
          have h1 : ¬ (j : Int) < quartersI q := of_decide_eq_false c25
          omega
        refine awp_exit ?_
        refine then_exit ?_
        refine then_exit ?_
        refine block_here ?_
        refine then_norm ?_
        refine awp_go hmix ?_
        refine go_run' ttok 3 rfl ?_
        refine go_append1 ttok rfl ?_ ?_ rfl rfl rfl rfl rfl rfl rfl rfl rfl rfl rfl rfl rfl rfl rfl rfl rfl rfl ?_
        · have := checkL_len (l := l) (by simpa using c11)
          have h2 : (((l.take k).map (turnQ q)).map encDf).length ≤ l.length := by simp; omega
          show (_ + 1) * 56 ≤ 140737488355328
          omega
        · have := checkL_len (l := l) (by simpa using c11)
          have h2 : (((l.take k).map (turnQ q)).map encDf).length ≤ l.length := by simp; omega
          omega
        refine go_run' ttok 1 rfl ?_
        refine go_nil nd ?_
        refine block_norm ?_
        refine then_norm ?_
        refine awp_go hmix ?_
        refine go_run' ttok 3 rfl ?_
        refine go_nil nd ?_
        refine then_norm ⟨rfl, ⟨k + 1, hk'⟩, [(5, some 35)], ⟨rfl, rfl, rfl, rfl, rfl, ⟨⟨rfl, rfl, ?_⟩, ⟨rfl, ?_⟩, trivial⟩, ⟨⟨_, rfl, rfl, rfl, .inl ⟨?_, nr_df _⟩⟩, trivial⟩⟩, ?_⟩
        · simp
          omega
        · rw [w64_id' (by omega) (by omega)]
          rfl
        · rw [take_succ_get hk', List.map_append, List.map_append, hj']
          rfl
        · dsimp only; omega
    · skip
      have hk' : k = l.length := by simp at c15; omega
      refine awp_exit ?_
      refine then_exit ?_
      refine then_exit ?_
      refine block_here ?_
      refine then_norm ?_
      refine awp_seq ?_
      refine awp_go hmix ?_
      refine go_run' ttok 2 rfl ?_
      refine go_nil nd ?_
      refine then_norm ?_
      refine awp_ret ?_
      refine ret_ret ?_
      have e : turnD l q = (l.take k).map (turnQ q) := by
        rw [turnD, if_pos (by simpa using c11), hk', List.take_length]
      rw [e]
      exact finS rfl rfl rfl rfl (nr_df _)

theorem eqDf1 : eqB Try.prog shDf 41 = true := by kernel_rfl
theorem eqDf2 : (Try.prog).eqGuardType (Try.prog).depth 41 = false := by kernel_rfl
theorem eqDf_iff (x y : Df) : eqA (encDf x).cells (encDf y).cells = decide (x = y) := by
  obtain ⟨k, ⟨⟨a, b⟩, ⟨c, d⟩, ⟨e, f⟩⟩⟩ := x
  obtain ⟨k', ⟨⟨a', b'⟩, ⟨c', d'⟩, ⟨e', f'⟩⟩⟩ := y
  show (k == k' && (a == a' && (b == b' && (c == c' && (d == d' && (e == e' && (f == f' && true))))))) = _
  rw [Bool.eq_iff_iff]
  simp [and_assoc]
theorem take_eq_succ {a b : List Df} {k : Nat} (ha : k < a.length) (hb : k < b.length) (h : a.take k = b.take k) (he : a[k] = b[k]) : a.take (k + 1) = b.take (k + 1) := by
  rw [take_succ_get ha, take_succ_get hb, h, he]


theorem same_h (a b : List Df) (hl : a.length ≤ 9223372036854775807) : Holds Try.prog 40 [.sl (a.map encDf), .sl (b.map encDf)] [] (B (decide (a = b))) [] := by
  refine holds_fn Try.func40 rfl Try.ntmps40 rfl rfl rfl ?_
  refine awp_seq ?_
  refine awp_go hmix ?_
  refine go_run' ttok 1 rfl ?_
  refine go_nil nd ?_
  refine then_norm ?_
  refine awp_seq ?_
  refine awp_seq ?_
  refine awp_go hmix ?_
  refine go_run' ttok 5 rfl ?_
  refine go_nil nd ?_
  refine then_norm ?_
  refine awp_cond rfl (fun c10 => ?_) (fun c10 => ?_)
  · skip
    refine awp_seq ?_
    refine awp_go hmix ?_
    refine go_run' ttok 1 rfl ?_
    refine go_nil nd ?_
    refine then_norm ?_
    refine awp_ret ?_
    refine then_ret ?_
    refine ret_ret ?_
    refine fin0 ttok rfl rfl ?_
    show false = decide (a = b)
    symm
    rw [decide_eq_false_iff_not]
    rintro rfl
    simp at c10
  · skip
    refine awp_skip ?_
    refine then_norm ?_
    refine awp_seq ?_
    refine awp_seq ?_
    refine awp_go hmix ?_
    refine go_run' ttok 1 rfl ?_
    refine go_nil nd ?_
    refine then_norm ?_
    refine awp_block ?_
    have hab : a.length = b.length := by simp at c10; omega
    refine awp_loopK (X := {k : Nat // k ≤ a.length ∧ a.take k = b.take k}) [0, 1] [] (fun x => [(5, I x.1)]) (fun x => []) (fun x => a.length - x.1) ⟨0, Nat.zero_le _, rfl⟩ [] ⟨rfl, rfl, rfl, rfl, rfl, ⟨⟨rfl, rfl⟩, trivial⟩, trivial⟩ (fun x => ?_)
    obtain ⟨k, hk, hz⟩ := x
    dsimp only
    refine awp_seq ?_
    refine awp_seq ?_
    refine awp_go hmix ?_
    refine go_run' ttok 4 rfl ?_
    refine go_nil nd ?_
    refine then_norm ?_
    refine awp_cond rfl (fun c14 => ?_) (fun c14 => ?_)
    · skip
      have hk' : k < a.length := by simpa using c14
      have hkb : k < b.length := by omega
      refine awp_skip ?_
      refine then_norm ?_
      refine awp_seq ?_
      refine awp_block ?_
      refine awp_seq ?_
      refine awp_go hmix ?_
      refine go_run' ttok 2 rfl ?_
      refine go_index ttok (Int.natCast_nonneg _) (ev := encDf a[k]) (get_map hk') rfl rfl rfl rfl rfl rfl rfl rfl rfl ?_
      refine go_run' ttok 3 rfl ?_
      refine go_index ttok (Int.natCast_nonneg _) (ev := encDf b[k]) (get_map hkb) rfl rfl rfl rfl rfl rfl rfl rfl rfl ?_
      refine go_run' ttok 1 rfl ?_
      refine go_step rfl (as_neAgg shDf rfl eqDf1 eqDf2 (by decide) rfl rfl rfl rfl rfl) rfl rfl rfl ?_
      refine go_nil (fun _ => by kernel_rfl) ?_
      refine then_norm ?_
      refine awp_cond rfl (fun c25 => ?_) (fun c25 => ?_)
      · skip
        refine awp_seq ?_
        refine awp_go hmix ?_
        refine go_run' ttok 1 rfl ?_
        refine go_nil nd ?_
        refine then_norm ?_
        refine awp_ret ?_
        refine block_ret ?_
        refine then_ret ?_
        refine then_ret ?_
        refine block_ret ?_
        refine then_ret ?_
        refine ret_ret ?_
        refine fin0 ttok rfl rfl ?_
        show false = decide (a = b)
        symm
        rw [decide_eq_false_iff_not]
        rintro rfl
        have h : (!eqA (encDf a[k]).cells (encDf a[k]).cells) = true := c25
        rw [eqDf_iff] at h
        simp at h
      · skip
        refine awp_skip ?_
        refine block_norm ?_
        refine then_norm ?_
        refine awp_go hmix ?_
        refine go_run' ttok 3 rfl ?_
        refine go_nil nd ?_
        refine then_norm ⟨rfl, ⟨k + 1, hk', take_eq_succ hk' (by omega) hz (by have h : (!eqA (encDf a[k]).cells (encDf b[k]).cells) = false := c25; rw [eqDf_iff] at h; simpa using h)⟩, [], ⟨rfl, rfl, rfl, rfl, rfl, ⟨⟨rfl, ?_⟩, trivial⟩, trivial⟩, ?_⟩
        · rw [w64_id' (by omega) (by omega)]
          rfl
        · dsimp only; omega
    · skip
      have hk' : k = a.length := by simp at c14; omega
      refine awp_exit ?_
      refine then_exit ?_
      refine then_exit ?_
      refine block_here ?_
      refine then_norm ?_
      refine awp_seq ?_
      refine awp_go hmix ?_
      refine go_run' ttok 1 rfl ?_
      refine go_nil nd ?_
      refine then_norm ?_
      refine awp_ret ?_
      refine ret_ret ?_
      refine fin0 ttok rfl rfl ?_
      show true = decide (a = b)
      symm
      rw [decide_eq_true_eq]
      rw [hk', List.take_length, hab, List.take_length] at hz
      exact hz

end Go.Proofs.Ytbgoflekklfdjaa
