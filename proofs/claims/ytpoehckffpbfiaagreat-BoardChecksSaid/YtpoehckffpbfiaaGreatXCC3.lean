/- C3: what functions of the program compute (written by mod.py). -/
import Derived.Test.YtpoehckffpbfiaaGreatXCC2
import Derived.KernelRfl
namespace Go.Proofs.YtpoehckffpbfiaaGreat
open Go Go.Ab
set_option linter.unusedSimpArgs false
set_option linter.unusedVariables false
set_option linter.unusedSectionVars false
set_option maxRecDepth 20000
set_option maxHeartbeats 1000000
theorem short_total (c : List TProduct) : ∃ b, l19_Short_g c = some b := by
 unfold l19_Short_g
 obtain ⟨y, h1, _⟩ := loopO_both (s1 := fun q => l19_Short_s1 c q) (s2 := fun q => l19_Short_s1 c q) (min c.length 20) (fun j => (j : Int)) (fun _ => True) (fun y => ∃ b, y = .inl b) (bif decide (20 < c.length) then .inl false else .inr ()) (fun j hj => by
  have hjl : j < c.length := by omega
  unfold l19_Short_s1
  rw [lt_nat hjl, cond_true, decide_eq_false (p := (20 : Int) ≤ (j : Int)) (by omega), cond_false, getI_at hjl, W64_succ (by omega)]
  simp only [bind_some']
  cases decide (12 < ((c[j].Lengths.length : Nat) : Int)) with
  | true => exact .inr ⟨_, rfl, rfl, _, rfl⟩
  | false =>
   cases decide (12 < ((c[j].Prices.length : Nat) : Int)) with
   | true => exact .inr ⟨_, rfl, rfl, _, rfl⟩
   | false =>
    cases decide (100 < ((c[j].Name.size : Nat) : Int)) with
    | true => exact .inr ⟨_, rfl, rfl, _, rfl⟩
    | false => exact .inl ⟨rfl, rfl, trivial⟩) (by
  have : l19_Short_s1 c ((min c.length 20 : Nat) : Int) = some (.inr (bif decide (20 < c.length) then .inl false else .inr ())) := by
   unfold l19_Short_s1
   by_cases h : 20 < c.length
   ·rw [show min c.length 20 = 20 by omega, decide_eq_true (p := ((20 : Nat) : Int) < ((c.length : Nat) : Int)) (by omega), decide_eq_true h]
    rfl
   ·rw [show min c.length 20 = c.length by omega, nlt_nat, decide_eq_false h]
    rfl
  exact ⟨this, this⟩)
 rw [show ((0 : Nat) : Int) = 0 from rfl] at h1
 rw [h1, bind_some']
 cases y <;> exact ⟨_, rfl⟩
theorem rhas_eq {l : List Int} (hl : l.length ≤ 9223372036854775807) (n : Int) : r30_has_g l n = some (l.any fun e => e == n) := by
 unfold r30_has_g
 have := loopO_foldX (step := fun q : Int => r30_has_s1 l n q) l (fun e => e == n) (fun (u : Unit) _ => u) () (fun _ j => (j : Int)) (.inl true) (fun _ => .inr ()) (fun _ _ => True) trivial (fun _ _ _ _ _ => trivial) (fun s j hj _ hb => by
  unfold r30_has_s1
  rw [lt_nat hj, cond_true, getI_at hj, bind_some', hb, cond_false, W64_succ (by omega)]) (fun s j hj _ hb => by
  unfold r30_has_s1
  rw [lt_nat hj, cond_true, getI_at hj, bind_some', hb]
  rfl) (fun _ _ => by
  unfold r30_has_s1
  rw [nlt_nat]
  rfl)
 rw [show ((0 : Nat) : Int) = 0 from rfl] at this
 rw [this, bind_some']
 cases l.any fun e => e == n <;> rfl
noncomputable def outB (b : TBoard) (e : Df) : Bool := !(board_inside_g e.b.x (board_length_g b.Box.x)) || (!(board_inside_g e.b.y (board_length_g b.Box.y)) || !(board_inside_g e.b.z (board_length_g b.Box.z)))
theorem chk_loop {b : TBoard} (hl : b.Defects.length ≤ 9223372036854775806) : loopO (fun q => board_Check_s1 b q) 0 = some (bif b.Defects.any (outB b) then .inl 9 else .inr ()) := by
 have := loopO_foldX (step := fun q : Int => board_Check_s1 b q) b.Defects (outB b) (fun (u : Unit) _ => u) () (fun _ j => (j : Int)) (.inl 9) (fun _ => .inr ()) (fun _ _ => True) trivial (fun _ _ _ _ _ => trivial) (fun s j hj _ hb => by
  unfold outB at hb
  rw [Bool.or_eq_false_iff, Bool.or_eq_false_iff] at hb
  unfold board_Check_s1
  rw [lt_nat hj, cond_true, getI_at hj, bind_some', hb.1, hb.2.1, hb.2.2, W64_succ (by omega)]
  rfl) (fun s j hj _ hb => by
  unfold outB at hb
  unfold board_Check_s1
  rw [lt_nat hj, cond_true, getI_at hj, bind_some']
  cases h1 : !(board_inside_g b.Defects[j].b.x (board_length_g b.Box.x)) with
  | true => rfl
  | false =>
   cases h2 : !(board_inside_g b.Defects[j].b.y (board_length_g b.Box.y)) with
   | true => rfl
   | false =>
    rw [h1, h2, Bool.false_or, Bool.false_or] at hb
    rw [hb]
    rfl) (fun _ _ => by
  unfold board_Check_s1
  rw [nlt_nat]
  rfl)
 exact this
theorem rchk_loop {b : TBoard} (hl : b.Defects.length ≤ 9223372036854775806) : loopO (fun q => r30_Check_s1 b q) 0 = some (bif b.Defects.any (outB b) then .inl 9 else .inr ()) := chk_loop hl
theorem rgreen_eq (p : TProduct) (b : Bx) : r26_Green_g p b = ((board_length_g b.x == (product_Green_g p).1 && (board_length_g b.y == (product_Green_g p).2 && true)) || (board_length_g b.x == (product_Green_g p).2 && (board_length_g b.y == (product_Green_g p).1 && true))) := by
 unfold r26_Green_g board_length_g
 rw [letB_eq, ← green_eq]
 cases (W64 (b.x.b - b.x.a) == (product_Green_g p).1) <;> cases (W64 (b.y.b - b.y.a) == (product_Green_g p).2) <;> cases (W64 (b.x.b - b.x.a) == (product_Green_g p).2) <;> cases (W64 (b.y.b - b.y.a) == (product_Green_g p).1) <;> rfl
theorem moist_eq (n : Int) : board_isMoist_g n = !(decide (n < 0) || decide (20000 < n)) := by
 unfold board_isMoist_g
 by_cases h1 : n < 0
 ·rw [decide_eq_true h1, decide_eq_false (p := 0 ≤ n) (by omega)]
  rfl
 ·rw [decide_eq_false h1, decide_eq_true (p := 0 ≤ n) (by omega)]
  by_cases h2 : 20000 < n
  ·rw [decide_eq_true h2, decide_eq_false (by omega)]
   rfl
  ·rw [decide_eq_false h2, decide_eq_true (by omega)]
   rfl
theorem bcheck_rest (b : TBoard) (p : TProduct) (hb : b.Defects.length ≤ 9223372036854775806) (hc : p.Lengths.length ≤ 9223372036854775807) : ∃ e, (Option.bind (slices_Contains___int_int__g p.Lengths (board_length_g b.Box.z)) (fun cv1 => (bif (!cv1) then some 20 else (Option.bind (defect_Check_g b.Defects) (fun cv2 => (bif (cv2 != 0) then some cv2 else (Option.bind ((loopO (fun q => board_Check_s1 b q) 0) : Option (Int ⊕ Unit)) (Sum.elim (fun q => some q) (fun _ => (bif (decide (b.Volume < 0)) then some 9 else (Option.bind (board_Volume_g b) (fun vv1 => (bif (decide (vv1 < b.Volume)) then some 9 else (bif (decide (b.Wane < 0)) then some 9 else (bif (decide (1000 < b.Wane)) then some 9 else (bif (!(board_isMoist_g b.Cell.Surf)) then some 25 else (bif (!(board_isMoist_g b.Cell.Core)) then some 25 else (bif (decide (b.Cell.Stress < 0)) then some 25 else (bif (decide (1099511627776 < b.Cell.Stress)) then some 25 else (bif (decide (b.Grade < 0)) then some 26 else (bif (decide (9 < b.Grade)) then some 26 else some 0))))))))))))))))))))) = some e ∧
  (Option.bind (r30_has_g p.Lengths (r30_length_g b.Box.z)) (fun hv => (bif (!hv) then some 20 else (Option.bind (r13_Check_g b.Defects) (fun cv1 => (bif (cv1 != 0) then some cv1 else (Option.bind ((loopO (fun q => r30_Check_s1 b q) 0) : Option (Int ⊕ Unit)) (Sum.elim (fun q => some q) (fun _ => (bif (decide (b.Volume < 0)) then some 9 else (bif (decide ((r30_Volume_g b) < b.Volume)) then some 9 else (bif (decide (b.Wane < 0)) then some 9 else (bif (decide (1000 < b.Wane)) then some 9 else (bif (decide (b.Cell.Surf < 0)) then some 25 else (bif (decide (20000 < b.Cell.Surf)) then some 25 else (bif (decide (b.Cell.Core < 0)) then some 25 else (bif (decide (20000 < b.Cell.Core)) then some 25 else (bif (decide (b.Cell.Stress < 0)) then some 25 else (bif (decide (1099511627776 < b.Cell.Stress)) then some 25 else (bif (decide (b.Grade < 0)) then some 26 else (bif (decide (9 < b.Grade)) then some 26 else some 0))))))))))))))))))))) = some e := by
 rw [index_eq hc, rhas_eq hc, show r30_length_g b.Box.z = board_length_g b.Box.z from rfl, d_checkL_eq (by omega), r13_checkL_eq (by omega), chk_loop hb, rchk_loop hb, bvol_eq]
 simp only [bind_some']
 cases (p.Lengths.any fun e => e == board_length_g b.Box.z) with
 | false => exact ⟨_, rfl, rfl⟩
 | true =>
 cases (checkL b.Defects != 0) with
 | true => exact ⟨_, rfl, rfl⟩
 | false =>
 cases b.Defects.any (outB b) with
 | true => exact ⟨_, rfl, rfl⟩
 | false =>
 simp only [Bool.not_true, cond_false, Sum.elim_inr, moist_eq]
 cases decide (b.Volume < 0) with
 | true => exact ⟨_, rfl, rfl⟩
 | false =>
 cases decide (r30_Volume_g b < b.Volume) with
 | true => exact ⟨_, rfl, rfl⟩
 | false =>
 cases decide (b.Wane < 0) with
 | true => exact ⟨_, rfl, rfl⟩
 | false =>
 cases decide (1000 < b.Wane) with
 | true => exact ⟨_, rfl, rfl⟩
 | false =>
 cases decide (b.Cell.Surf < 0) with
 | true => exact ⟨_, rfl, rfl⟩
 | false =>
 cases decide (20000 < b.Cell.Surf) with
 | true => exact ⟨_, rfl, rfl⟩
 | false =>
 cases decide (b.Cell.Core < 0) with
 | true => exact ⟨_, rfl, rfl⟩
 | false =>
 cases decide (20000 < b.Cell.Core) with
 | true => exact ⟨_, rfl, rfl⟩
 | false =>
 cases decide (b.Cell.Stress < 0) with
 | true => exact ⟨_, rfl, rfl⟩
 | false =>
 cases decide (1099511627776 < b.Cell.Stress) with
 | true => exact ⟨_, rfl, rfl⟩
 | false =>
 cases decide (b.Grade < 0) with
 | true => exact ⟨_, rfl, rfl⟩
 | false => cases decide (9 < b.Grade) <;> exact ⟨_, rfl, rfl⟩
theorem bcheck_both (b : TBoard) (c : List TProduct) (hb : b.Defects.length ≤ 9223372036854775806) (hc : ∀ p ∈ c, p.Lengths.length ≤ 9223372036854775807) : ∃ e, board_Check_g b c = some e ∧ r30_Check_g b c = some e := by
 obtain ⟨e, h1, h2, _⟩ := catalog_both c
 obtain ⟨b1, i1, i2⟩ := is_both b.Id 66
 obtain ⟨b2, j1, j2⟩ := is_both b.Log 76
 obtain ⟨b3, n1, n2⟩ := name_both b.Species
 unfold board_Check_g r30_Check_g
 rw [h1, h2, i1, i2, j1, j2, n1, n2]
 simp only [bind_some']
 cases (e != 0) with
 | true => exact ⟨_, rfl, rfl⟩
 | false =>
 cases b1 with
 | false => exact ⟨_, rfl, rfl⟩
 | true =>
 cases b2 with
 | false => exact ⟨_, rfl, rfl⟩
 | true =>
 cases b3 with
 | false => exact ⟨_, rfl, rfl⟩
 | true =>
 simp only [Bool.not_true, cond_false]
 by_cases g1 : b.Product < 0
 ·rw [decide_eq_true g1]
  exact ⟨_, rfl, rfl⟩
 rw [decide_eq_false g1, cond_false, cond_false]
 by_cases g2 : ((c.length : Nat) : Int) ≤ b.Product
 ·rw [decide_eq_true g2]
  exact ⟨_, rfl, rfl⟩
 rw [decide_eq_false g2, cond_false, cond_false, isBox_eq, placed_eq, bind_some']
 cases decide (boxOk b.Box) with
 | false => exact ⟨_, rfl, rfl⟩
 | true =>
 simp only [Bool.not_true, cond_false]
 obtain ⟨j, hj⟩ := Int.eq_ofNat_of_zero_le (show 0 ≤ b.Product by omega)
 have hjl : j < c.length := by omega
 have hcl := hc _ (List.getElem_mem hjl)
 rw [hj, getI_at hjl]
 simp only [bind_some', letB_eq]
 rw [rgreen_eq]
 cases hg1 : (board_length_g b.Box.x == (product_Green_g c[j]).1 && (board_length_g b.Box.y == (product_Green_g c[j]).2 && true)) with
 | false =>
  cases hg2 : (board_length_g b.Box.x == (product_Green_g c[j]).2 && (board_length_g b.Box.y == (product_Green_g c[j]).1 && true)) with
  | false => exact ⟨_, rfl, rfl⟩
  | true => exact bcheck_rest b c[j] hb hcl
 | true => exact bcheck_rest b c[j] hb hcl
theorem boardChecks_true (b : TBoard) (c : List TProduct) (hb : b.Defects.length ≤ 9223372036854775807) (hc : ∀ p ∈ c, p.Lengths.length ≤ 9223372036854775807) : l30_BoardChecks_g b c = some true := by
 unfold l30_BoardChecks_g
 rw [aw30]
 cases hf : l30_few_g b with
 | false => rfl
 | true =>
 have hd : b.Defects.length ≤ 9223372036854775806 := by
  unfold l30_few_g at hf
  by_cases h : ((b.Defects.length : Nat) : Int) ≤ 100
  ·omega
  ·rw [decide_eq_false h] at hf
   cases hf
 obtain ⟨q, hq⟩ := short_total c
 rw [hq]
 cases q with
 | false => rfl
 | true =>
 obtain ⟨e, h1, h2⟩ := bcheck_both b c hd hc
 rw [h1, h2]
 simp
end Go.Proofs.YtpoehckffpbfiaaGreat
