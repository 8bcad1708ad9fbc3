/- P4: what functions of the program compute (written by mod.py). -/
import Derived.Test.YtcimnopodmnmmaaP3
import Derived.KernelRfl
namespace Go.Proofs.Ytcimnopodmnmmaa
open Go Go.Ab
set_option linter.unusedSimpArgs false
set_option linter.unusedVariables false
set_option maxRecDepth 20000
set_option maxHeartbeats 1000000

/-! the boards of a split -/
theorem price_in {p : TProduct} (hp : ProdOk p) (n : Int) : ∃ v, r19_Price_g p n = some (v, p.Lengths.any fun e => e == n) := by
  unfold r19_Price_g
  have hl := hp.l
  have hs := hp.s
  rw [show (0 : Int) = ((0 : Nat) : Int) from rfl, loopO_findN (step := fun q : Int => r19_Price_s1 p n q) p.Lengths.length (fun j => (j : Int)) (fun j => (p.Lengths[j]?).elim false fun e => e == n) (fun j => .inl ((p.Prices[j]?).getD 0, true)) (.inr ()) (fun j hj hq => by
    rw [List.getElem?_eq_getElem hj] at hq
    show r19_Price_s1 p n j = _
    unfold r19_Price_s1
    rw [lt_nat hj, cond_true, getI_at hj, bind_some', show (p.Lengths[j] == n) = false from hq, cond_false, W64_succ (by omega)]) (fun j hj hq => by
    rw [List.getElem?_eq_getElem hj] at hq
    show r19_Price_s1 p n j = _
    unfold r19_Price_s1
    rw [lt_nat hj, cond_true, getI_at hj, bind_some', show (p.Lengths[j] == n) = true from hq, cond_true, decide_eq_false (by omega), cond_false, getI_at (by omega), bind_some', List.getElem?_eq_getElem (by omega)]
    rfl) (by
    show r19_Price_s1 p n _ = _
    unfold r19_Price_s1
    rw [nlt_nat]
    rfl), bind_some']
  cases hf : (List.range p.Lengths.length).find? (fun j => (p.Lengths[j]?).elim false fun e => e == n) with
  | none =>
    refine ⟨0, ?_⟩
    rw [List.find?_eq_none] at hf
    have : (p.Lengths.any fun e => e == n) = false := by
      rw [List.any_eq_false]
      intro e he
      obtain ⟨j, hj, rfl⟩ := List.getElem_of_mem he
      have := hf j (List.mem_range.2 hj)
      rw [List.getElem?_eq_getElem hj] at this
      exact this
    rw [this]
    rfl
  | some j =>
    refine ⟨(p.Prices[j]?).getD 0, ?_⟩
    have h1 := List.find?_some hf
    have hj := List.mem_range.1 (List.mem_of_find?_eq_some hf)
    rw [List.getElem?_eq_getElem hj] at h1
    have : (p.Lengths.any fun e => e == n) = true := by
      rw [List.any_eq_true]
      exact ⟨_, List.getElem_mem hj, h1⟩
    rw [this]
    rfl
def v4 (b : Bx) : Nat → Int
  | 0 => b.x.a
  | 1 => b.x.b
  | 2 => b.y.a
  | _ => b.y.b
def v2 (b : Bx) : Nat → Int
  | 0 => b.z.a
  | _ => b.z.b
def ok6 (n : Int) : Bool := !(decide (n < -600)) && !(decide (600 < n))
def ok2 (n : Int) : Bool := !(decide (n < 0)) && !(decide (20000 < n))
theorem wide_eq (s : Sp) : r27_wide_g s = (ok6 s.a && ok6 s.b) := by
  unfold r27_wide_g ok6
  rw [bnot_le, bnot_le, bnot_le, bnot_le]
  cases decide (s.a < -600) <;> cases decide (600 < s.a) <;> cases decide (s.b < -600) <;> cases decide (600 < s.b) <;> rfl
theorem along_eq (n : Int) : r27_along_g n = ok2 n := by
  unfold r27_along_g ok2
  rw [bnot_le, bnot_le]
  cases decide (n < 0) <;> cases decide (20000 < n) <;> rfl
theorem board_loop1 (b : TBoard) : loopO (fun q => resaw_checkBoard_s1 b q) 0 = some (bif r27_wide_g b.Box.x && r27_wide_g b.Box.y then .inr () else .inl 9) := by
  rw [show (0 : Int) = ((0 : Nat) : Int) from rfl, loopO_allN 4 (fun j => ((j : Nat) : Int)) (fun j => ok6 (v4 b.Box j)) (9 : Int) (by
    intro j hj
    unfold resaw_checkBoard_s1
    rw [decide_eq_true (show (j : Int) < 4 by omega), cond_true, show getI [b.Box.x.a, b.Box.x.b, b.Box.y.a, b.Box.y.b] (j : Int) = some (v4 b.Box j) by
      match j, hj with
      | 0, _ => rfl
      | 1, _ => rfl
      | 2, _ => rfl
      | 3, _ => rfl, bind_some', W64_succ (by omega)]
    unfold ok6
    cases decide (v4 b.Box j < -600) <;> cases decide (600 < v4 b.Box j) <;> rfl) (by rfl)]
  rw [wide_eq, wide_eq, show (List.range 4).all (fun j => ok6 (v4 b.Box j)) = (ok6 b.Box.x.a && (ok6 b.Box.x.b && (ok6 b.Box.y.a && (ok6 b.Box.y.b && true)))) from rfl]
  cases ok6 b.Box.x.a <;> cases ok6 b.Box.x.b <;> cases ok6 b.Box.y.a <;> cases ok6 b.Box.y.b <;> rfl
theorem board_loop2 (b : TBoard) : loopO (fun q => resaw_checkBoard_s2 b q) 0 = some (bif r27_along_g b.Box.z.a && r27_along_g b.Box.z.b then .inr () else .inl 9) := by
  rw [show (0 : Int) = ((0 : Nat) : Int) from rfl, loopO_allN 2 (fun j => ((j : Nat) : Int)) (fun j => ok2 (v2 b.Box j)) (9 : Int) (by
    intro j hj
    unfold resaw_checkBoard_s2
    rw [decide_eq_true (show (j : Int) < 2 by omega), cond_true, show getI [b.Box.z.a, b.Box.z.b] (j : Int) = some (v2 b.Box j) by
      match j, hj with
      | 0, _ => rfl
      | 1, _ => rfl, bind_some', W64_succ (by omega)]
    unfold ok2
    cases decide (v2 b.Box j < 0) <;> cases decide (20000 < v2 b.Box j) <;> rfl) (by rfl)]
  rw [along_eq, along_eq, show (List.range 2).all (fun j => ok2 (v2 b.Box j)) = (ok2 b.Box.z.a && (ok2 b.Box.z.b && true)) from rfl]
  cases ok2 b.Box.z.a <;> cases ok2 b.Box.z.b <;> rfl
theorem checkBoard_eq {b : TBoard} (hd : b.Defects.length ≤ 1000) : resaw_checkBoard_g b = some (bif r27_wide_g b.Box.x && r27_wide_g b.Box.y then (bif r27_along_g b.Box.z.a && r27_along_g b.Box.z.b then (bif decide (b.Box.z.b ≤ b.Box.z.a) then 19 else checkL b.Defects) else 9) else 9) := by
  unfold resaw_checkBoard_g
  rw [board_loop1, bind_some', board_loop2, d_checkL_eq (by omega)]
  cases r27_wide_g b.Box.x && r27_wide_g b.Box.y with
  | false => rfl
  | true =>
    cases r27_along_g b.Box.z.a && r27_along_g b.Box.z.b with
    | false => rfl
    | true => cases decide (b.Box.z.b ≤ b.Box.z.a) <;> rfl
/-- What is wrong with the parts asked for, or their thicknesses. -/
noncomputable def thk (c : List TProduct) (w len : Int) (e : Int) : Int ⊕ Int :=
  bif decide (e < 0) then .inl 8 else bif decide (((c.length : Nat) : Int) ≤ e) then .inl 8 else
    (c[e.toNat]?).elim (.inl 8) fun p => bif (r19_Green_g p).2 != w then .inl 20 else bif !(p.Lengths.any fun n => n == len) then .inl 20 else .inr (r19_Green_g p).1
noncomputable def thks (c : List TProduct) (w len : Int) : List Int → Int ⊕ List Int
  | [] => .inr []
  | e :: r => Sum.elim (fun v => .inl v) (fun t => Sum.elim (fun v => .inl v) (fun ts => .inr (t :: ts)) (thks c w len r)) (thk c w len e)
theorem thks_len (c : List TProduct) (w len : Int) : ∀ (l ts : List Int), thks c w len l = .inr ts → ts.length = l.length := by
  intro l
  induction l with
  | nil => intro ts h; cases h; rfl
  | cons e r ih =>
    intro ts h
    rw [thks] at h
    cases h1 : thk c w len e with
    | inl v => rw [h1] at h; cases h
    | inr t =>
      rw [h1] at h
      cases h2 : thks c w len r with
      | inl v => rw [h2] at h; cases h
      | inr us =>
        rw [h2] at h
        cases h
        rw [List.length_cons, List.length_cons, ih us h2]
theorem thks_err (c : List TProduct) (w len : Int) : ∀ (l : List Int) (v : Int), thks c w len l = .inl v → v ≠ 0 := by
  intro l
  induction l with
  | nil => intro v h; cases h
  | cons e r ih =>
    intro v h
    rw [thks] at h
    cases h1 : thk c w len e with
    | inl u =>
      rw [h1] at h
      cases h
      unfold thk at h1
      intro hv
      subst hv
      cases hA : decide (e < 0) with
      | true => rw [hA] at h1; cases h1
      | false =>
        rw [hA, cond_false] at h1
        cases hB : decide (((c.length : Nat) : Int) ≤ e) with
        | true => rw [hB] at h1; cases h1
        | false =>
          rw [hB, cond_false] at h1
          cases hC : c[e.toNat]? with
          | none => rw [hC] at h1; cases h1
          | some p =>
            rw [hC] at h1
            dsimp only [Option.elim] at h1
            cases hD : ((r19_Green_g p).2 != w) with
            | true => rw [hD] at h1; cases h1
            | false =>
              rw [hD, cond_false] at h1
              cases hE : (!(p.Lengths.any fun n => n == len)) with
              | true => rw [hE] at h1; cases h1
              | false => rw [hE] at h1; cases h1
    | inr t =>
      rw [h1] at h
      cases h2 : thks c w len r with
      | inl u =>
        rw [h2] at h
        cases h
        exact ih _ h2
      | inr us => rw [h2] at h; cases h
theorem getI_int {α : Type} {l : List α} {e : Int} (h0 : ¬ e < 0) (h1 : ¬ (l.length : Int) ≤ e) : ∃ h : e.toNat < l.length, getI l e = some l[e.toNat] := by
  have h : e.toNat < l.length := by omega
  refine ⟨h, ?_⟩
  have := getI_at h
  rw [show ((e.toNat : Nat) : Int) = e by omega] at this
  exact this
theorem thick_step {c : List TProduct} (hc : c.length ≤ 16) (hp : ∀ p ∈ c, ProdOk p) (w len : Int) (p r : List Int) (e : Int) (L : List Int) (hl : (p ++ e :: r).length ≤ 100) (hL : L.length ≤ p.length) :
    resaw_thicknesses_s1 c (p ++ e :: r) w len L (p.length : Int) = some (Sum.elim (fun v => .inr (.inl ([], v))) (fun t => .inl (L ++ [t], ((p ++ [e]).length : Int))) (thk c w len e)) := by
  have hl' : p.length + (r.length + 1) ≤ 100 := by simpa using hl
  unfold resaw_thicknesses_s1 thk
  rw [decide_eq_true (by simp; omega), cond_true, getI_mid, bind_some']
  by_cases h0 : e < 0
  · rw [decide_eq_true h0]
    rfl
  · by_cases h1 : ((c.length : Nat) : Int) ≤ e
    · rw [decide_eq_false h0, decide_eq_true h1]
      rfl
    · obtain ⟨h, hg⟩ := getI_int h0 h1
      have hP := hp _ (List.getElem_mem h)
      have h8 := hP.l
      rw [decide_eq_false h0, decide_eq_false h1, hg, cond_false, cond_false, cond_false, cond_false, bind_some', letB_eq, green_eq, bind_some', index_eq (by omega), bind_some', List.getElem?_eq_getElem h]
      show _ = some (Sum.elim _ _ (bif ((r19_Green_g c[e.toNat]).2 != w) then _ else bif !(c[e.toNat].Lengths.any fun n => n == len) then _ else _))
      cases (r19_Green_g c[e.toNat]).2 != w with
      | true => rfl
      | false =>
        cases (c[e.toNat].Lengths.any fun n => n == len) with
        | false => rfl
        | true =>
          rw [cond_false, Bool.not_true, cond_false, appO_eq (by simp; omega) (by simp; omega), bind_some', W64_succ (by omega)]
          simp
theorem given_step {b : TBoard} {c : List TProduct} (hc : c.length ≤ 16) (hp : ∀ p ∈ c, ProdOk p) (gv : Int × Int) (x : Bool) (t : Int) (p r : List Int) (e : Int) (L : List Int) (hl : (p ++ e :: r).length ≤ 100) (hL : L.length ≤ p.length) :
    r27_given_s1 b c (p ++ e :: r) gv x t L (p.length : Int) = some (Sum.elim (fun v => .inr (.inl (false, 0, [], v))) (fun s => .inl (x, t, L ++ [s], ((p ++ [e]).length : Int))) (thk c gv.2 (r27_size_g b.Box.z) e)) := by
  have hl' : p.length + (r.length + 1) ≤ 100 := by simpa using hl
  unfold r27_given_s1 thk
  rw [decide_eq_true (by simp; omega), cond_true, getI_mid, bind_some', bind_some', bind_some']
  by_cases h0 : e < 0
  · rw [decide_eq_true h0]
    rfl
  · by_cases h1 : ((c.length : Nat) : Int) ≤ e
    · rw [decide_eq_false h0, decide_eq_true h1]
      rfl
    · obtain ⟨h, hg⟩ := getI_int h0 h1
      have hP := hp _ (List.getElem_mem h)
      obtain ⟨v, hv⟩ := price_in hP (r27_size_g b.Box.z)
      rw [decide_eq_false h0, decide_eq_false h1, hg, cond_false, cond_false, cond_false, cond_false, bind_some', letB_eq, bind_some', hg, bind_some', hv, bind_some', List.getElem?_eq_getElem h]
      show _ = some (Sum.elim _ _ (bif ((r19_Green_g c[e.toNat]).2 != gv.2) then _ else bif !(c[e.toNat].Lengths.any fun n => n == r27_size_g b.Box.z) then _ else _))
      cases (r19_Green_g c[e.toNat]).2 != gv.2 with
      | true => rfl
      | false =>
        dsimp only
        cases (c[e.toNat].Lengths.any fun n => n == r27_size_g b.Box.z) with
        | false => rfl
        | true =>
          rw [cond_false, Bool.not_true, cond_false, appO_eq (by simp; omega) (by simp; omega), bind_some', W64_succ (by omega)]
          simp
theorem thick_loop {c : List TProduct} (hc : c.length ≤ 16) (hp : ∀ p ∈ c, ProdOk p) (w len : Int) : ∀ (r p L : List Int), (p ++ r).length ≤ 100 → L.length ≤ p.length →
    loopO (fun q : List Int × Int => resaw_thicknesses_s1 c (p ++ r) w len q.1 q.2) (L, (p.length : Int)) = some (Sum.elim (fun v => .inl ([], v)) (fun ts => .inr (L ++ ts)) (thks c w len r)) := by
  intro r
  induction r with
  | nil =>
    intro p L hl hL
    refine loopO_done ?_
    rw [List.append_nil]
    show resaw_thicknesses_s1 c p w len L (p.length : Int) = _
    unfold resaw_thicknesses_s1
    rw [nlt_nat, cond_false, thks]
    simp
  | cons e r ih =>
    intro p L hl hL
    have hs := thick_step hc hp w len p r e L hl hL
    rw [thks]
    cases h : thk c w len e with
    | inl v =>
      rw [h] at hs
      exact loopO_done hs
    | inr t =>
      rw [h] at hs
      have := ih (p ++ [e]) (L ++ [t]) (by simpa using hl) (by simpa using hL)
      rw [show p ++ [e] ++ r = p ++ e :: r by simp] at this
      rw [loopO_next hs, this]
      cases thks c w len r with
      | inl v => rfl
      | inr ts => simp
theorem given_loop {b : TBoard} {c : List TProduct} (hc : c.length ≤ 16) (hp : ∀ p ∈ c, ProdOk p) (gv : Int × Int) (x : Bool) (t : Int) : ∀ (r p L : List Int), (p ++ r).length ≤ 100 → L.length ≤ p.length →
    loopO (fun q : Bool × Int × List Int × Int => r27_given_s1 b c (p ++ r) gv q.1 q.2.1 q.2.2.1 q.2.2.2) (x, t, L, (p.length : Int)) = some (Sum.elim (fun v => .inl (false, 0, [], v)) (fun ts => .inr (x, t, L ++ ts)) (thks c gv.2 (r27_size_g b.Box.z) r)) := by
  intro r
  induction r with
  | nil =>
    intro p L hl hL
    refine loopO_done ?_
    rw [List.append_nil]
    show r27_given_s1 b c p gv x t L (p.length : Int) = _
    unfold r27_given_s1
    rw [nlt_nat, cond_false, thks]
    simp
  | cons e r ih =>
    intro p L hl hL
    have hs := given_step (b := b) hc hp gv x t p r e L hl hL
    rw [thks]
    cases h : thk c gv.2 (r27_size_g b.Box.z) e with
    | inl v =>
      rw [h] at hs
      exact loopO_done hs
    | inr s =>
      rw [h] at hs
      have := ih (p ++ [e]) (L ++ [s]) (by simpa using hl) (by simpa using hL)
      rw [show p ++ [e] ++ r = p ++ e :: r by simp] at this
      rw [loopO_next hs, this]
      cases thks c gv.2 (r27_size_g b.Box.z) r with
      | inl v => rfl
      | inr ts => simp

theorem part_eq (b : Bx) (x : Bool) (s : Sp) : r27_part_g b x s = resaw_with_g b x s := rfl
noncomputable def locB (b : Bx) : Bx := ⟨⟨0, W64 (b.x.b - b.x.a)⟩, ⟨0, W64 (b.y.b - b.y.a)⟩, ⟨0, W64 (b.z.b - b.z.a)⟩⟩
noncomputable def mkX (b : TBoard) (ax : Bool) (low : Int) (s : Sp) : Bx := resaw_with_g b.Box ax ⟨W64 (low + s.a), W64 (low + s.b)⟩
noncomputable def mkB (b : TBoard) (ax : Bool) (low : Int) (q : Int × Sp) : TBoard := ⟨⟨#[]⟩, b.Log, b.Species, q.1, mkX b ax low q.2, 0, clipD b.Defects (resaw_with_g (locB b.Box) ax q.2), b.Wane, b.Cell, b.Dried, 0⟩
section
variable {b : TBoard} (hd : b.Defects.length ≤ 1000) {products : List Int} {sv : List Sp × List Sp × Sp × Int}
include hd
theorem brd_loop1 (ax : Bool) (low : Int) (h1 : sv.1.length ≤ products.length) (h2 : sv.1.length ≤ 100) : loopO (fun q : List TBoard × Int => resaw_Boards_s1 b products ax sv low q.1 q.2) ([], 0) = some ((products.zip sv.1).map (mkB b ax low)) := by
  have hz : (products.zip sv.1).length = sv.1.length := by rw [List.length_zip]; omega
  refine loopO_upto (step := fun q : List TBoard × Int => resaw_Boards_s1 b products ax sv low q.1 q.2) (fun j => (((products.zip sv.1).take j).map (mkB b ax low), (j : Int))) sv.1.length (fun j hj => ?_) ?_
  · show resaw_Boards_s1 b products ax sv low _ (j : Int) = _
    unfold resaw_Boards_s1
    rw [lt_nat hj, cond_true, getI_at hj, bind_some', getI_at (by omega), bind_some', letB_eq, letB_eq, d_clip_eq _ (by omega), bind_some', appO_eq (by rw [List.length_map, List.length_take]; simp; omega) (by rw [List.length_map, List.length_take]; simp; omega), bind_some', W64_succ (by omega), List.take_succ_eq_append_getElem (by omega), List.map_append, List.getElem_zip]
    rfl
  · show resaw_Boards_s1 b products ax sv low _ (sv.1.length : Int) = _
    unfold resaw_Boards_s1
    rw [nlt_nat, cond_false, List.take_of_length_le (by omega)]
theorem brd_loop2 (gv : Bool × Int × List Int × Int) (low : Int) (h1 : sv.1.length ≤ products.length) (h2 : sv.1.length ≤ 100) : loopO (fun q : List TBoard × Int => r27_Boards_s1 b products gv sv low q.1 q.2) ([], 0) = some ((products.zip sv.1).map (mkB b gv.1 low)) := by
  have hz : (products.zip sv.1).length = sv.1.length := by rw [List.length_zip]; omega
  refine loopO_upto (step := fun q : List TBoard × Int => r27_Boards_s1 b products gv sv low q.1 q.2) (fun j => (((products.zip sv.1).take j).map (mkB b gv.1 low), (j : Int))) sv.1.length (fun j hj => ?_) ?_
  · show r27_Boards_s1 b products gv sv low _ (j : Int) = _
    unfold r27_Boards_s1
    rw [lt_nat hj, cond_true, getI_at (l := products) (by omega), bind_some', getI_at hj, bind_some', bind_some', letB_eq, bind_some', letB_eq, r13_clip_eq _ (by omega), bind_some', appO_eq (by rw [List.length_map, List.length_take]; simp; omega) (by rw [List.length_map, List.length_take]; simp; omega), bind_some', W64_succ (by omega), List.take_succ_eq_append_getElem (by omega), List.map_append, List.getElem_zip]
    rfl
  · show r27_Boards_s1 b products gv sv low _ (sv.1.length : Int) = _
    unfold r27_Boards_s1
    rw [nlt_nat, cond_false, List.take_of_length_le (by omega)]
omit hd in
theorem dst_loop1 (ax : Bool) (low : Int) (h2 : sv.2.1.length ≤ 100) : loopO (fun q : List Bx × Int => resaw_Boards_s2 b ax sv low q.1 q.2) ([], 0) = some (sv.2.1.map (mkX b ax low)) := by
  refine loopO_upto (step := fun q : List Bx × Int => resaw_Boards_s2 b ax sv low q.1 q.2) (fun j => ((sv.2.1.take j).map (mkX b ax low), (j : Int))) sv.2.1.length (fun j hj => ?_) ?_
  · show resaw_Boards_s2 b ax sv low _ (j : Int) = _
    unfold resaw_Boards_s2
    rw [lt_nat hj, cond_true, getI_at hj, bind_some', letB_eq, appO_eq (by rw [List.length_map, List.length_take]; simp; omega) (by rw [List.length_map, List.length_take]; simp; omega), bind_some', W64_succ (by omega), List.take_succ_eq_append_getElem (by omega), List.map_append]
    rfl
  · show resaw_Boards_s2 b ax sv low _ (sv.2.1.length : Int) = _
    unfold resaw_Boards_s2
    rw [nlt_nat, cond_false, List.take_length]
omit hd in
theorem dst_loop2 (gv : Bool × Int × List Int × Int) (low : Int) (h2 : sv.2.1.length ≤ 100) : loopO (fun q : List Bx × Int => r27_Boards_s2 b gv sv low q.1 q.2) ([], 0) = some (sv.2.1.map (mkX b gv.1 low)) := by
  refine loopO_upto (step := fun q : List Bx × Int => r27_Boards_s2 b gv sv low q.1 q.2) (fun j => ((sv.2.1.take j).map (mkX b gv.1 low), (j : Int))) sv.2.1.length (fun j hj => ?_) ?_
  · show r27_Boards_s2 b gv sv low _ (j : Int) = _
    unfold r27_Boards_s2
    rw [lt_nat hj, cond_true, getI_at hj, bind_some', bind_some', letB_eq, appO_eq (by rw [List.length_map, List.length_take]; simp; omega) (by rw [List.length_map, List.length_take]; simp; omega), bind_some', W64_succ (by omega), List.take_succ_eq_append_getElem (by omega), List.map_append]
    rfl
  · show r27_Boards_s2 b gv sv low _ (sv.2.1.length : Int) = _
    unfold r27_Boards_s2
    rw [nlt_nat, cond_false, List.take_length]
end
noncomputable def bK (b : TBoard) (products : List Int) (kerf : Int) (gv : Bool × Int × List Int × Int) : Option (List TBoard × List Bx × List Bx × Int) :=
  (bif (gv.2.2.2 != 0) then some ([], [], [], gv.2.2.2) else (Option.bind (r27_Spans_g gv.2.1 kerf gv.2.2.1) (fun sv => (letB ((bif gv.1 then b.Box.x.a else b.Box.y.a) : Int) (fun vfrom => (Option.bind ((loopO (fun q => r27_Boards_s1 b products gv sv vfrom q.1 q.2) ([], 0)) : Option (List TBoard)) (fun boards => (Option.bind ((loopO (fun q => r27_Boards_s2 b gv sv vfrom q.1 q.2) ([], 0)) : Option (List Bx)) (fun dust => (bif (decide (sv.2.2.1.a < sv.2.2.1.b)) then (letB (r27_part_g b.Box gv.1 (⟨(W64 (vfrom + sv.2.2.1.a)), (W64 (vfrom + sv.2.2.1.b))⟩ : Sp)) (fun pv3 => (Option.bind (appO 48 ([] : List Bx) ([pv3])) (fun l2 => some (boards, dust, l2, 0))))) else some (boards, dust, [], 0)))))))))))
theorem r27_Boards_def (b : TBoard) (c : List TProduct) (products : List Int) (kerf : Int) : r27_Boards_g b c products kerf = Option.bind (r27_given_g b c products kerf) (bK b products kerf) := rfl
theorem bK_err (b : TBoard) (products : List Int) (kerf : Int) (x : Bool) (t : Int) (l : List Int) {v : Int} (hv : v ≠ 0) : bK b products kerf (x, t, l, v) = some ([], [], [], v) := by
  unfold bK
  rw [ne_t hv]
  rfl
noncomputable def rK (b : TBoard) (c : List TProduct) (products : List Int) (kerf : Int) (gv : Int × Int) (x : Bool) : Option (Bool × Int × List Int × Int) :=
  (Option.bind ((loopO (fun q => r27_given_s1 b c products gv q.1 q.2.1 q.2.2.1 q.2.2.2) (x, gv.1, [], 0)) : Option ((Bool × Int × (List Int) × Int) ⊕ (Bool × Int × (List Int)))) (Sum.elim (fun q => some q) (fun w3 => (Option.bind (r27_Check_g w3.2.1 kerf w3.2.2) (fun cv2 => some (w3.1, w3.2.1, w3.2.2, cv2))))))
noncomputable def pK (b : TBoard) (c : List TProduct) (products : List Int) (kerf : Int) (gv : Int × Int) (alongX : Bool) : Option (List TBoard × List Bx × List Bx × Int) :=
  (Option.bind (resaw_thicknesses_g c products gv.2 (W64 (b.Box.z.b - b.Box.z.a))) (fun tv => (bif (tv.2 != 0) then some ([], [], [], tv.2) else (Option.bind (resaw_Spans_g gv.1 kerf tv.1) (fun sv => (bif (sv.2.2.2 != 0) then some ([], [], [], sv.2.2.2) else (letB ((bif alongX then b.Box.x.a else b.Box.y.a) : Int) (fun low => (Option.bind ((loopO (fun q => resaw_Boards_s1 b products alongX sv low q.1 q.2) ([], 0)) : Option (List TBoard)) (fun boards => (Option.bind ((loopO (fun q => resaw_Boards_s2 b alongX sv low q.1 q.2) ([], 0)) : Option (List Bx)) (fun dust => (bif (decide (0 < (span_Len_g sv.2.2.1))) then (letB (resaw_Boards_1_g sv.2.2.1 b alongX low) (fun bv2 => (Option.bind (appO 48 ([] : List Bx) ([bv2])) (fun l2 => some (boards, dust, l2, 0))))) else some (boards, dust, [], 0))))))))))))))
noncomputable def lowOf (b : TBoard) (ax : Bool) : Int := bif ax then b.Box.x.a else b.Box.y.a
noncomputable def goodR (b : TBoard) (products : List Int) (kerf : Int) (ax : Bool) (t : Int) (ts : List Int) : List TBoard × List Bx × List Bx × Int :=
  ((products.zip (brdR t kerf 0 ts)).map (mkB b ax (lowOf b ax)), (dstR t kerf 0 ts).map (mkX b ax (lowOf b ax)), (bif decide (endR t kerf 0 ts < t) then [mkX b ax (lowOf b ax) ⟨endR t kerf 0 ts, t⟩] else []), 0)
theorem end_ge {t k : Int} (hk : 0 ≤ k) : ∀ (l : List Int) (a : Int), Fit t k a l → a ≤ endR t k a l := by
  intro l
  induction l with
  | nil => intro a _; exact Int.le_refl _
  | cons e r ih =>
    intro a h
    have := ih _ h.2.2
    obtain ⟨h1, h2, _⟩ := h
    rw [endR]
    omega
theorem kk_both {b : TBoard} (hd : b.Defects.length ≤ 1000) {c : List TProduct} (hc : c.length ≤ 16) (hp : ∀ p ∈ c, ProdOk p) {products : List Int} (hl : products.length ≤ 100) (kerf : Int) (gv : Int × Int) (ax : Bool) :
    ∃ r, pK b c products kerf gv ax = some r ∧ Option.bind (rK b c products kerf gv ax) (bK b products kerf) = some r ∧ ((∃ e, e ≠ 0 ∧ r = ([], [], [], e)) ∨ ∃ ts, chk gv.1 kerf ts = 0 ∧ ts.length = products.length ∧ r = goodR b products kerf ax gv.1 ts) := by
  have h1 := thick_loop hc hp gv.2 (W64 (b.Box.z.b - b.Box.z.a)) products [] [] (by simpa using hl) (by simp)
  have h2 := given_loop (b := b) hc hp gv ax gv.1 products [] [] (by simpa using hl) (by simp)
  rw [List.nil_append] at h1 h2
  unfold pK rK resaw_thicknesses_g
  rw [show (([] : List Int), (0 : Int)) = ([], ((([] : List Int).length : Nat) : Int)) from rfl, h1, h2]
  show ∃ r, _ ∧ Option.bind (Option.bind (some (Sum.elim _ _ (thks c gv.2 (W64 (b.Box.z.b - b.Box.z.a)) products))) _) _ = _ ∧ _
  cases ht : thks c gv.2 (W64 (b.Box.z.b - b.Box.z.a)) products with
  | inl v =>
    have hv := thks_err _ _ _ _ _ ht
    refine ⟨([], [], [], v), ?_, bK_err _ _ _ _ _ _ hv, .inl ⟨v, hv, rfl⟩⟩
    show (bif v != 0 then _ else _) = _
    rw [ne_t hv]
    rfl
  | inr ts =>
    have hts := thks_len _ _ _ _ _ ht
    have hb := spans_both gv.1 kerf ts
    show ∃ r, (bif (0 : Int) != 0 then some ([], [], [], 0) else Option.bind (resaw_Spans_g gv.1 kerf ts) _) = some r ∧ Option.bind (Option.bind (r27_Check_g gv.1 kerf ts) (fun cv2 => some (ax, gv.1, ts, cv2))) _ = some r ∧ _
    rw [ne_f, cond_false, hb.1, r27_check_eq, bind_some', bind_some', bind_some']
    by_cases hc0 : chk gv.1 kerf ts = 0
    · obtain ⟨hS, g1, g2, g3, g4, g5⟩ := chk_ok hc0
      have hP : spansP gv.1 kerf ts = (brdR gv.1 kerf 0 ts, dstR gv.1 kerf 0 ts, bif decide (endR gv.1 kerf 0 ts < gv.1) then ⟨endR gv.1 kerf 0 ts, gv.1⟩ else ⟨0, 0⟩, 0) := by
        unfold spansP
        rw [hc0]
        rfl
      have hlen := dst_len (t := gv.1) (k := kerf) ts 0
      have he := end_ge hS.2.2.1 ts 0 g5
      refine ⟨_, ?_, ?_, .inr ⟨ts, hc0, hts, rfl⟩⟩
      · rw [hP]
        show (bif (0 : Int) != 0 then _ else _) = _
        rw [ne_f, cond_false, letB_eq, brd_loop1 hd _ _ (by dsimp only; omega) (by dsimp only; omega), bind_some', dst_loop1 _ _ (by dsimp only; omega), bind_some']
        unfold goodR
        by_cases hh : endR gv.1 kerf 0 ts < gv.1
        · rw [decide_eq_true hh]
          dsimp only [cond_true]
          have hsl : 0 < span_Len_g ⟨endR gv.1 kerf 0 ts, gv.1⟩ := by
            rw [span_len_eq ⟨by unfold I64; dsimp only; omega, by unfold I64; dsimp only; omega⟩]
            unfold spanLen spanLenU
            rw [if_neg (by dsimp only; omega)]
            dsimp only
            omega
          show (bif decide (0 < span_Len_g ⟨endR gv.1 kerf 0 ts, gv.1⟩) then _ else _) = _
          rw [decide_eq_true hsl, cond_true, letB_eq, appO_eq (by simp) (by simp), bind_some']
          rfl
        · rw [decide_eq_false hh]
          dsimp only [cond_false]
          have hsl : ¬ 0 < span_Len_g ⟨0, 0⟩ := by
            rw [span_len_eq ⟨by unfold I64; dsimp only; omega, by unfold I64; dsimp only; omega⟩]
            unfold spanLen spanLenU
            rw [if_pos (by dsimp only; omega)]
            omega
          show (bif decide (0 < span_Len_g ⟨0, 0⟩) then _ else _) = _
          rw [decide_eq_false hsl, cond_false]
          rfl
      · unfold bK
        dsimp only
        rw [hc0, ne_f, cond_false, hb.2, bind_some', hP, letB_eq, brd_loop2 hd _ _ (by dsimp only; omega) (by dsimp only; omega), bind_some', dst_loop2 _ _ (by dsimp only; omega), bind_some']
        unfold goodR
        by_cases hh : endR gv.1 kerf 0 ts < gv.1
        · rw [decide_eq_true hh]
          dsimp only [cond_true]
          rw [decide_eq_true hh, cond_true, letB_eq, appO_eq (by simp) (by simp), bind_some']
          rfl
        · rw [decide_eq_false hh]
          dsimp only [cond_false]
          rfl
    · refine ⟨([], [], [], chk gv.1 kerf ts), ?_, bK_err _ _ _ _ _ _ hc0, .inl ⟨_, hc0, rfl⟩⟩
      have hP : spansP gv.1 kerf ts = ([], [], ⟨0, 0⟩, chk gv.1 kerf ts) := by
        unfold spansP
        rw [ne_t hc0]
        rfl
      rw [hP]
      dsimp only
      rw [ne_t hc0]
      rfl
structure BdB (b : TBoard) : Prop where
  x : -600 ≤ b.Box.x.a ∧ b.Box.x.a ≤ 600 ∧ -600 ≤ b.Box.x.b ∧ b.Box.x.b ≤ 600
  y : -600 ≤ b.Box.y.a ∧ b.Box.y.a ≤ 600 ∧ -600 ≤ b.Box.y.b ∧ b.Box.y.b ≤ 600
  z : 0 ≤ b.Box.z.a ∧ b.Box.z.a < b.Box.z.b ∧ b.Box.z.b ≤ 20000
  d : checkL b.Defects = 0
def Good (b : TBoard) (products : List Int) (kerf : Int) (r : List TBoard × List Bx × List Bx × Int) : Prop :=
  ∃ (ax : Bool) (t w : Int) (ts : List Int), BdB b ∧ 1 ≤ w ∧ (if ax then b.Box.x.b - b.Box.x.a = t ∧ b.Box.y.b - b.Box.y.a = w else b.Box.y.b - b.Box.y.a = t ∧ b.Box.x.b - b.Box.x.a = w) ∧ chk t kerf ts = 0 ∧ ts.length = products.length ∧ r = goodR b products kerf ax t ts
theorem green_ge {p : TProduct} (hp : ProdOk p) : 1 ≤ (r19_Green_g p).2 := by
  obtain ⟨h1, h2⟩ := hp.t
  obtain ⟨h3, h4⟩ := hp.w
  obtain ⟨h5, h6⟩ := hp.a
  unfold r19_Green_g r19_sized_g
  rw [decide_eq_true (p := 1 ≤ p.Thick) (by omega), decide_eq_true (p := p.Thick ≤ 600) (by omega), decide_eq_true (p := 1 ≤ p.Width) (by omega), decide_eq_true (p := p.Width ≤ 600) (by omega), decide_eq_false (p := p.Allow < 0) (by omega), decide_eq_false (p := 200 < p.Allow) (by omega)]
  show 1 ≤ W64 (Int.tdiv (W64 (W64 (p.Width * W64 (1000 + p.Allow)) + 999)) 1000)
  have m1 : 0 ≤ p.Width * p.Allow := Int.mul_nonneg (by omega) h5
  have m2 : p.Width * p.Allow ≤ 600 * 200 := Int.mul_le_mul h4 h6 h5 (by omega)
  have m3 : p.Width * (1000 + p.Allow) = p.Width * 1000 + p.Width * p.Allow := Int.mul_add ..
  rw [W64_eq (n := 1000 + p.Allow) (by omega) (by omega), W64_eq (n := p.Width * (1000 + p.Allow)) (by omega) (by omega), W64_eq (n := p.Width * (1000 + p.Allow) + 999) (by omega) (by omega), Int.tdiv_eq_ediv_of_nonneg (by omega), W64_eq (by omega) (by omega)]
  omega
theorem boards_both {b : TBoard} (hd : b.Defects.length ≤ 1000) (c : List TProduct) {products : List Int} (hl : products.length ≤ 100) (kerf : Int) :
    ∃ r, resaw_Boards_g b c products kerf = some r ∧ r27_Boards_g b c products kerf = some r ∧ ((∃ e, e ≠ 0 ∧ r = ([], [], [], e)) ∨ Good b products kerf r) := by
  obtain ⟨e, h1, h2, h3⟩ := catalog_both c
  rw [r27_Boards_def]
  unfold resaw_Boards_g r27_given_g
  rw [h1, h2, bind_some', bind_some']
  by_cases he : e = 0
  · obtain ⟨hc, hp⟩ := h3 he
    rw [he, ne_f, cond_false, cond_false]
    by_cases h0 : b.Product < 0
    · rw [decide_eq_true h0]
      exact ⟨([], [], [], 8), rfl, bK_err _ _ _ _ _ _ (by omega), .inl ⟨8, by omega, rfl⟩⟩
    · by_cases hge : ((c.length : Nat) : Int) ≤ b.Product
      · rw [decide_eq_false h0, decide_eq_true hge]
        exact ⟨([], [], [], 8), rfl, bK_err _ _ _ _ _ _ (by omega), .inl ⟨8, by omega, rfl⟩⟩
      · obtain ⟨hlt, hg⟩ := getI_int h0 hge
        rw [decide_eq_false h0, decide_eq_false hge, hg, checkBoard_eq hd, r13_checkL_eq (by omega)]
        simp only [cond_false, bind_some', letB_eq, green_eq]
        cases hwx : r27_wide_g b.Box.x with
        | false => exact ⟨([], [], [], 9), rfl, bK_err _ _ _ _ _ _ (by omega), .inl ⟨9, by omega, rfl⟩⟩
        | true =>
          cases hwy : r27_wide_g b.Box.y with
          | false => exact ⟨([], [], [], 9), rfl, bK_err _ _ _ _ _ _ (by omega), .inl ⟨9, by omega, rfl⟩⟩
          | true =>
            cases hza : r27_along_g b.Box.z.a with
            | false => exact ⟨([], [], [], 9), rfl, bK_err _ _ _ _ _ _ (by omega), .inl ⟨9, by omega, rfl⟩⟩
            | true =>
              cases hzb : r27_along_g b.Box.z.b with
              | false => exact ⟨([], [], [], 9), rfl, bK_err _ _ _ _ _ _ (by omega), .inl ⟨9, by omega, rfl⟩⟩
              | true =>
                by_cases hz : b.Box.z.b ≤ b.Box.z.a
                · rw [decide_eq_true hz]
                  exact ⟨([], [], [], 19), rfl, bK_err _ _ _ _ _ _ (by omega), .inl ⟨19, by omega, rfl⟩⟩
                · rw [decide_eq_false hz]
                  simp only [Bool.and_self, Bool.not_true, cond_true, cond_false]
                  by_cases hck : checkL b.Defects = 0
                  · rw [hck, ne_f, cond_false, cond_false]
                    have hB : BdB b := by
                      unfold r27_wide_g at hwx hwy
                      unfold r27_along_g at hza hzb
                      simp only [Bool.cond_false_right, Bool.and_eq_true, decide_eq_true_eq] at hwx hwy hza hzb
                      exact ⟨by omega, by omega, by omega, hck⟩
                    have hw := green_ge (hp _ (List.getElem_mem hlt))
                    have hx := hB.x
                    have hy := hB.y
                    rw [show r27_size_g b.Box.x = W64 (b.Box.x.b - b.Box.x.a) from rfl, show r27_size_g b.Box.y = W64 (b.Box.y.b - b.Box.y.a) from rfl, W64_eq (n := b.Box.x.b - b.Box.x.a) (by omega) (by omega), W64_eq (n := b.Box.y.b - b.Box.y.a) (by omega) (by omega)]
                    generalize hgv : r19_Green_g c[b.Product.toNat] = gv at *
                    cases hA : (bif (b.Box.x.b - b.Box.x.a == gv.1) then (b.Box.y.b - b.Box.y.a == gv.2) else false : Bool) with
                    | true =>
                      obtain ⟨r, r1, r2, r3⟩ := kk_both hd hc hp hl kerf gv true
                      refine ⟨r, r1, r2, r3.imp id ?_⟩
                      rintro ⟨ts, t1, t2, t3⟩
                      refine ⟨true, gv.1, gv.2, ts, hB, hw, ?_, t1, t2, t3⟩
                      simp only [Bool.cond_false_right, Bool.and_eq_true, beq_iff_eq] at hA
                      simpa using hA
                    | false =>
                      simp only [Bool.not_false, cond_true]
                      cases hB1 : (b.Box.y.b - b.Box.y.a != gv.1) with
                      | true => exact ⟨([], [], [], 20), rfl, bK_err _ _ _ _ _ _ (by omega), .inl ⟨20, by omega, rfl⟩⟩
                      | false =>
                        cases hB2 : (b.Box.x.b - b.Box.x.a != gv.2) with
                        | true => exact ⟨([], [], [], 20), rfl, bK_err _ _ _ _ _ _ (by omega), .inl ⟨20, by omega, rfl⟩⟩
                        | false =>
                          obtain ⟨r, r1, r2, r3⟩ := kk_both hd hc hp hl kerf gv false
                          refine ⟨r, r1, r2, r3.imp id ?_⟩
                          rintro ⟨ts, t1, t2, t3⟩
                          refine ⟨false, gv.1, gv.2, ts, hB, hw, ?_, t1, t2, t3⟩
                          simp only [bne_eq_false_iff_eq] at hB1 hB2
                          simpa using ⟨hB1, hB2⟩
                  · rw [ne_t hck]
                    exact ⟨([], [], [], checkL b.Defects), rfl, bK_err _ _ _ _ _ _ hck, .inl ⟨_, hck, rfl⟩⟩
  · rw [ne_t he]
    exact ⟨([], [], [], e), rfl, bK_err _ _ _ _ _ _ he, .inl ⟨_, he, rfl⟩⟩
theorem eqBx_self (s : Bx) : eqV encBx s s = true := by
  unfold eqV encBx
  simp [eqA, AV.cells, veq]
theorem eqCell_self (s : TCell) : eqV encTCell s s = true := by
  unfold eqV encTCell
  simp [eqA, AV.cells, veq]
theorem sameBx_self {a : List Bx} (hl : a.length ≤ 1000000) : r27_SameBoxes_g a a = some true := by
  unfold r27_SameBoxes_g
  rw [show (((a.length : Nat) : Int) != ((a.length : Nat) : Int)) = false by simp, cond_false]
  rw [show (0 : Int) = ((0 : Nat) : Int) from rfl, loopO_upto (step := fun q : Int => r27_SameBoxes_s1 a a q) (fun j => (j : Int)) a.length (y := .inr ()) (fun j hj => by
    show r27_SameBoxes_s1 a a j = _
    unfold r27_SameBoxes_s1
    rw [lt_nat hj, cond_true, getI_at hj, bind_some', bind_some', eqBx_self, Bool.not_true, cond_false, W64_succ (by omega)]) (by
    show r27_SameBoxes_s1 a a _ = _
    unfold r27_SameBoxes_s1
    rw [nlt_nat]
    rfl), bind_some']
  rfl
theorem sameDf_self {a : List Df} (hl : a.length ≤ 1000000) : r27_SameDefects_g a a = some true := by
  unfold r27_SameDefects_g
  rw [show (((a.length : Nat) : Int) != ((a.length : Nat) : Int)) = false by simp, cond_false]
  rw [show (0 : Int) = ((0 : Nat) : Int) from rfl, loopO_upto (step := fun q : Int => r27_SameDefects_s1 a a q) (fun j => (j : Int)) a.length (y := .inr ()) (fun j hj => by
    show r27_SameDefects_s1 a a j = _
    unfold r27_SameDefects_s1
    rw [lt_nat hj, cond_true, getI_at hj, bind_some', bind_some', eqV_df, decide_eq_true rfl, Bool.not_true, cond_false, W64_succ (by omega)]) (by
    show r27_SameDefects_s1 a a _ = _
    unfold r27_SameDefects_s1
    rw [nlt_nat]
    rfl), bind_some']
  rfl
theorem bEq_self (s : ByteArray) : bEq s s = true := by
  simp [bEq]
theorem sameB_self {b : TBoard} (hl : b.Defects.length ≤ 1000000) : r27_SameBoard_g b b = some true := by
  unfold r27_SameBoard_g
  simp only [bEq_self, eqBx_self, eqCell_self, beq_self_eq_true, cond_true, sameDf_self hl, bind_some']
theorem sameBs_self {a : List TBoard} (hl : a.length ≤ 1000000) (hd : ∀ b ∈ a, b.Defects.length ≤ 1000000) : r27_SameBoards_g a a = some true := by
  unfold r27_SameBoards_g
  rw [show (((a.length : Nat) : Int) != ((a.length : Nat) : Int)) = false by simp, cond_false]
  rw [show (0 : Int) = ((0 : Nat) : Int) from rfl, loopO_upto (step := fun q : Int => r27_SameBoards_s1 a a q) (fun j => (j : Int)) a.length (y := .inr ()) (fun j hj => by
    show r27_SameBoards_s1 a a j = _
    unfold r27_SameBoards_s1
    rw [lt_nat hj, cond_true, getI_at hj, bind_some', bind_some', sameB_self (hd _ (List.getElem_mem hj)), bind_some', Bool.not_true, cond_false, W64_succ (by omega)]) (by
    show r27_SameBoards_s1 a a _ = _
    unfold r27_SameBoards_s1
    rw [nlt_nat]
    rfl), bind_some']
  rfl
theorem small_tot (x : Tsawmilllaw27_Split) : ∃ v, l27_small_g x = some v ∧ (v = true → x.Board.Defects.length ≤ 70 ∧ x.Products.length ≤ 20 ∧ x.Parts.length ≤ 20) := by
  unfold l27_small_g
  by_cases h1 : 70 < ((x.Board.Defects.length : Nat) : Int)
  · rw [decide_eq_true h1]; exact ⟨false, rfl, fun h => by cases h⟩
  · rw [decide_eq_false h1, cond_false]
    cases decide (100 < ((x.Board.Id.size : Nat) : Int)) with
    | true => exact ⟨false, rfl, fun h => by cases h⟩
    | false =>
      cases decide (100 < ((x.Board.Log.size : Nat) : Int)) with
      | true => exact ⟨false, rfl, fun h => by cases h⟩
      | false =>
        cases decide (100 < ((x.Board.Species.size : Nat) : Int)) with
        | true => exact ⟨false, rfl, fun h => by cases h⟩
        | false =>
          by_cases h2 : 20 < ((x.Products.length : Nat) : Int)
          · rw [decide_eq_true h2]; exact ⟨false, rfl, fun h => by cases h⟩
          · by_cases h3 : 20 < ((x.Parts.length : Nat) : Int)
            · rw [decide_eq_false h2, decide_eq_true h3]; exact ⟨false, rfl, fun h => by cases h⟩
            · rw [decide_eq_false h2, decide_eq_false h3]
              simp only [cond_false]
              have hstep : ∀ j (hj : j < x.Products.length), l27_small_s1 x (j : Int) = bif (!decide (100 < ((x.Products[j].Name.size : Nat) : Int)) && (!decide (12 < ((x.Products[j].Lengths.length : Nat) : Int)) && !decide (12 < ((x.Products[j].Prices.length : Nat) : Int)))) then some (.inl ((j + 1 : Nat) : Int)) else some (.inr (.inl false)) := by
                intro j hj
                unfold l27_small_s1
                rw [lt_nat hj, cond_true, getI_at hj, bind_some', bind_some', bind_some', W64_succ (by omega)]
                cases decide (100 < ((x.Products[j].Name.size : Nat) : Int)) <;> cases decide (12 < ((x.Products[j].Lengths.length : Nat) : Int)) <;> cases decide (12 < ((x.Products[j].Prices.length : Nat) : Int)) <;> rfl
              rw [show (0 : Int) = ((0 : Nat) : Int) from rfl, loopO_allN (step := fun q : Int => l27_small_s1 x q) x.Products.length (fun j => (j : Int)) (fun j => (x.Products[j]?).elim true fun p => (!decide (100 < ((p.Name.size : Nat) : Int)) && (!decide (12 < ((p.Lengths.length : Nat) : Int)) && !decide (12 < ((p.Prices.length : Nat) : Int))))) false (fun j hj => by
                rw [List.getElem?_eq_getElem hj]
                exact hstep j hj) (by
                show l27_small_s1 x _ = _
                unfold l27_small_s1
                rw [nlt_nat]
                rfl), bind_some']
              generalize (List.range x.Products.length).all _ = v
              cases v with
              | false => exact ⟨false, rfl, fun h => by cases h⟩
              | true => exact ⟨true, rfl, fun _ => ⟨by omega, by omega, by omega⟩⟩
theorem clip_len (l : List Df) (b : Bx) : (clipD l b).length ≤ 64 := by
  unfold clipD
  split
  · next h => exact Nat.le_trans (List.length_filterMap_le ..) (checkL_len h.1)
  · simp
theorem resawSplits_true (x : Tsawmilllaw27_Split) : l27_ResawSplits_g x = some true := by
  unfold l27_ResawSplits_g l27_of_g
  rw [aw27]
  obtain ⟨v, hv, hs⟩ := small_tot x
  rw [hv, bind_some']
  cases v with
  | false => rfl
  | true =>
    obtain ⟨s1, s2, s3⟩ := hs rfl
    obtain ⟨r, r1, r2, r3⟩ := boards_both (b := x.Board) (by omega) x.Products (products := x.Parts) (by omega) x.Kerf
    rw [r1, r2]
    simp only [bind_some', Bool.not_true, cond_false]
    rcases r3 with ⟨e, he, rfl⟩ | ⟨ax, t, w, ts, g1, g2, g3, g4, g5, rfl⟩
    · rw [sameBs_self (by simp) (by simp), bind_some', cond_true, sameBx_self (by simp), bind_some', cond_true, bind_some', cond_true]
      simp
    · obtain ⟨_, _, q2, _⟩ := chk_ok g4
      have hlen := dst_len (t := t) (k := x.Kerf) ts 0
      unfold goodR
      dsimp only
      rw [sameBs_self (by rw [List.length_map, List.length_zip]; omega) (by
        intro b hb
        rw [List.mem_map] at hb
        obtain ⟨q, _, rfl⟩ := hb
        exact Nat.le_trans (clip_len _ _) (by omega)), bind_some', cond_true, sameBx_self (by rw [List.length_map]; omega), bind_some', cond_true, sameBx_self (by
        cases decide (endR t x.Kerf 0 ts < t) <;> simp), bind_some', cond_true]
      simp

end Go.Proofs.Ytcimnopodmnmmaa
