/- E2: what functions of the program compute (written by mod.py). -/
import Derived.Test.YtpoehckffpbfiaaGreatXAE1
import Derived.KernelRfl
namespace Go.Proofs.YtpoehckffpbfiaaGreat
open Go Go.Ab
set_option linter.unusedSimpArgs false
set_option linter.unusedVariables false
set_option linter.unusedSectionVars false
set_option maxRecDepth 20000
set_option maxHeartbeats 1000000
theorem short_total (c : List TProduct) : ∃ b, l19_Short_g c = some b := by
 unfold l19_Short_g
 obtain ⟨y, h1, _⟩ := loopO_both (s1 := fun q => l19_Short_s1 c q) (s2 := fun q => l19_Short_s1 c q) (min c.length 20) (fun j => (j : Int)) (fun _ => True) (fun y => ∃ b, y = .inl b) (bif decide (20 < c.length) then .inl false else .inr ()) (fun j hj => by
  have hjl : j < c.length := by omega
  unfold l19_Short_s1
  rw [lt_nat hjl, cond_true, decide_eq_false (p := (20 : Int) ≤ (j : Int)) (by omega), cond_false, getI_at hjl, W64_succ (by omega)]
  simp only [bind_some']
  cases decide (12 < ((c[j].Lengths.length : Nat) : Int)) with
  | true => exact .inr ⟨_, rfl, rfl, _, rfl⟩
  | false =>
   cases decide (12 < ((c[j].Prices.length : Nat) : Int)) with
   | true => exact .inr ⟨_, rfl, rfl, _, rfl⟩
   | false =>
    cases decide (100 < ((c[j].Name.size : Nat) : Int)) with
    | true => exact .inr ⟨_, rfl, rfl, _, rfl⟩
    | false => exact .inl ⟨rfl, rfl, trivial⟩) (by
  have : l19_Short_s1 c ((min c.length 20 : Nat) : Int) = some (.inr (bif decide (20 < c.length) then .inl false else .inr ())) := by
   unfold l19_Short_s1
   by_cases h : 20 < c.length
   ·rw [show min c.length 20 = 20 by omega, decide_eq_true (p := ((20 : Nat) : Int) < ((c.length : Nat) : Int)) (by omega), decide_eq_true h]
    rfl
   ·rw [show min c.length 20 = c.length by omega, nlt_nat, decide_eq_false h]
    rfl
  exact ⟨this, this⟩)
 rw [show ((0 : Nat) : Int) = 0 from rfl] at h1
 rw [h1, bind_some']
 cases y <;> exact ⟨_, rfl⟩
noncomputable def outB (b : TBoard) (e : Df) : Bool := !(board_inside_g e.b.x (board_length_g b.Box.x)) || (!(board_inside_g e.b.y (board_length_g b.Box.y)) || !(board_inside_g e.b.z (board_length_g b.Box.z)))
theorem chk_loop {b : TBoard} (hl : b.Defects.length ≤ 9223372036854775806) : loopO (fun q => board_Check_s1 b q) 0 = some (bif b.Defects.any (outB b) then .inl 9 else .inr ()) := by
 have := loopO_foldX (step := fun q : Int => board_Check_s1 b q) b.Defects (outB b) (fun (u : Unit) _ => u) () (fun _ j => (j : Int)) (.inl 9) (fun _ => .inr ()) (fun _ _ => True) trivial (fun _ _ _ _ _ => trivial) (fun s j hj _ hb => by
  unfold outB at hb
  rw [Bool.or_eq_false_iff, Bool.or_eq_false_iff] at hb
  unfold board_Check_s1
  rw [lt_nat hj, cond_true, getI_at hj, bind_some', hb.1, hb.2.1, hb.2.2, W64_succ (by omega)]
  rfl) (fun s j hj _ hb => by
  unfold outB at hb
  unfold board_Check_s1
  rw [lt_nat hj, cond_true, getI_at hj, bind_some']
  cases h1 : !(board_inside_g b.Defects[j].b.x (board_length_g b.Box.x)) with
  | true => rfl
  | false =>
   cases h2 : !(board_inside_g b.Defects[j].b.y (board_length_g b.Box.y)) with
   | true => rfl
   | false =>
    rw [h1, h2, Bool.false_or, Bool.false_or] at hb
    rw [hb]
    rfl) (fun _ _ => by
  unfold board_Check_s1
  rw [nlt_nat]
  rfl)
 exact this
theorem moist_eq (n : Int) : board_isMoist_g n = !(decide (n < 0) || decide (20000 < n)) := by
 unfold board_isMoist_g
 by_cases h1 : n < 0
 ·rw [decide_eq_true h1, decide_eq_false (p := 0 ≤ n) (by omega)]
  rfl
 ·rw [decide_eq_false h1, decide_eq_true (p := 0 ≤ n) (by omega)]
  by_cases h2 : 20000 < n
  ·rw [decide_eq_true h2, decide_eq_false (by omega)]
   rfl
  ·rw [decide_eq_false h2, decide_eq_true (by omega)]
   rfl
theorem numbers_wide {p : TProduct} (h : product_checkNumbers_g p = some 0) : (r19_Green_g p).2 ≤ 600 := by
 rw [numbers_eq] at h
 by_cases h9 : 600 < (r19_Green_g p).2
 ·rw [decide_eq_true h9] at h
  revert h
  cases decide (p.Thick < 5) with
  | true => intro h; cases h
  | false =>
  cases decide (300 < p.Thick) with
  | true => intro h; cases h
  | false =>
  cases decide (p.Width < p.Thick) with
  | true => intro h; cases h
  | false =>
  cases decide (600 < p.Width) with
  | true => intro h; cases h
  | false =>
  cases decide (p.Allow < 0) with
  | true => intro h; cases h
  | false =>
  cases decide (200 < p.Allow) with
  | true => intro h; cases h
  | false =>
  cases decide (p.Wane < 0) with
  | true => intro h; cases h
  | false => cases decide (1000 < p.Wane) <;> (intro h; cases h)
 ·omega
theorem single_wide {p : TProduct} (h : r19_Check_g [p] = some 0) : (r19_Green_g p).2 ≤ 600 := by
 obtain ⟨b, n1, n2⟩ := name_both p.Name
 obtain ⟨c, hc, _⟩ := numbers_total p
 have s2 := r19_step p
 rw [n2, hc, bind_some', bind_some'] at s2
 unfold r19_Check_g at h
 rw [show decide ((16 : Int) < (([p].length : Nat) : Int)) = false from rfl, cond_false] at h
 cases b with
 | false =>
  rw [loopO_done (step := fun q => r19_Check_s1 [p] q) s2] at h
  cases h
 | true =>
  by_cases h0 : c = 0
  ·subst h0
   exact numbers_wide hc
  ·rw [ne_t h0] at s2
   rw [loopO_done (step := fun q => r19_Check_s1 [p] q) s2] at h
   have h : some c = some (0 : Int) := h
   cases h
   exact absurd rfl h0
theorem green_thick {p : TProduct} (h : ProdOk p) : (r19_Green_g p).1 ≤ 600 := by
 have ht := h.t
 have ha := h.a
 have hw := h.w
 have h1 := Int.mul_le_mul (a := p.Thick) (c := 300) (b := 1000 + p.Allow) (d := 1200) (by omega) (by omega) (by omega) (by omega)
 have h2 : 0 ≤ p.Thick * (1000 + p.Allow) := Int.mul_nonneg (by omega) (by omega)
 unfold r19_Green_g
 cases r19_sized_g p with
 | false => show (0 : Int) ≤ 600; omega
 | true =>
  rw [Bool.not_true, cond_false, decide_eq_false (by omega), cond_false, decide_eq_false (by omega), cond_false]
  dsimp only
  rw [W64_eq (n := 1000 + p.Allow) (by omega) (by omega), W64_eq (n := p.Thick * _) (by omega) (by omega), W64_eq (n := _ + 999) (by omega) (by omega), Int.tdiv_eq_ediv_of_nonneg (by omega)]
  generalize p.Thick * (1000 + p.Allow) = t at *
  rw [W64_eq (by omega) (by omega)]
  omega
theorem clip_inside {l : List Df} {b : Bx} (hc : checkL l = 0) (hb : okB b) {d : Df} (h : d ∈ l.filterMap (clipOne b)) : (0 ≤ d.b.x.a ∧ d.b.x.a ≤ b.x.b - b.x.a ∧ 0 ≤ d.b.x.b ∧ d.b.x.b ≤ b.x.b - b.x.a) ∧ (0 ≤ d.b.y.a ∧ d.b.y.a ≤ b.y.b - b.y.a ∧ 0 ≤ d.b.y.b ∧ d.b.y.b ≤ b.y.b - b.y.a) ∧ (0 ≤ d.b.z.a ∧ d.b.z.a ≤ b.z.b - b.z.a ∧ 0 ≤ d.b.z.b ∧ d.b.z.b ≤ b.z.b - b.z.a) := by
 obtain ⟨e, _, ⟨t1, t2, t3⟩, rfl⟩ := clip_mem hc hb h
 unfold tch at t1 t2 t3
 unfold cutB cut1
 dsimp only
 omega
theorem inside_i {s : Sp} {n : Int} (h : 0 ≤ s.a ∧ s.a ≤ n ∧ 0 ≤ s.b ∧ s.b ≤ n) : board_inside_g s n = true := by
 unfold board_inside_g
 rw [decide_eq_true h.1, decide_eq_true h.2.1, decide_eq_true h.2.2.1, decide_eq_true h.2.2.2]
 rfl
theorem accepted_check {m : Tsawmilllaw30_Made} {x : Tsawmilllaw30_Log} {c : List TProduct} (hl : LowOk x.Solid) (hd : x.Defects.length ≤ 9223372036854775807) (k1 : ident_Is_g m.Id 66 = some true) (k2 : ident_Is_g m.Log 76 = some true) (k3 : ident_IsName_g m.Species.Name = some true) (k4 : 0 ≤ m.Species.Green ∧ m.Species.Green ≤ 20000)
  (hc : product_Check_g c = some 0) {j : Nat} (hj : j < c.length) (hp : m.Product = (j : Int)) (hA : (vld x.Solid x.Defects c[j] && acc x.Solid x.Defects c[j] m.Box) = true) {v w : Int} (hv : solid_Within_g x.Solid m.Box = some v) (hw : worth_Wane_g x.Solid m.Box = some w) (h0 : 0 ≤ v) (h1 : v ≤ volN m.Box ∨ volN m.Box = 0) (h2 : 0 ≤ w ∧ w ≤ 1000) :
  board_Check_g ⟨m.Id, m.Log, m.Species.Name, m.Product, m.Box, v, clipD x.Defects m.Box, w, ⟨m.Species.Green, m.Species.Green, 0⟩, false, 0⟩ c = some 0 ∧ w ≤ c[j].Wane := by
 rw [Bool.and_eq_true] at hA
 obtain ⟨hV, hA⟩ := hA
 have V := vld_t hl hV
 unfold vld at hV
 simp only [Bool.and_eq_true, beq_iff_eq] at hV
 have hck : checkL x.Defects = 0 := by
  have := hV.2.1
  rw [r13_checkL_eq hd] at this
  exact Option.some.inj this
 have hg2 := single_wide hV.2.2
 have hg1 := green_thick V.prod
 unfold acc at hA
 simp only [Bool.and_eq_true, decide_eq_true_eq] at hA
 obtain ⟨ax, ay, az, apr, agk, _, awn⟩ := hA
 have hx := across_t ax
 have hy := across_t ay
 have hz := wthin_t az
 have htot := V.sol.tot
 have hbox : boxOk m.Box := ⟨⟨hx.1, hx.2.2, hx.2.1⟩, ⟨hy.1, hy.2.2, hy.2.1⟩, hz.1, by omega, hz.2.1⟩
 have hpb := prod_bd hbox
 have hvn : volN m.Box = area m.Box.x m.Box.y * (m.Box.z.b - m.Box.z.a) := by unfold volN; rw [if_pos hbox]
 have ex : board_length_g m.Box.x = m.Box.x.b - m.Box.x.a := W64_eq (by omega) (by omega)
 have ey : board_length_g m.Box.y = m.Box.y.b - m.Box.y.a := W64_eq (by omega) (by omega)
 have ez : board_length_g m.Box.z = m.Box.z.b - m.Box.z.a := W64_eq (by omega) (by omega)
 have hgk : ((board_length_g m.Box.x == (product_Green_g c[j]).1 && (board_length_g m.Box.y == (product_Green_g c[j]).2 && true)) || (board_length_g m.Box.x == (product_Green_g c[j]).2 && (board_length_g m.Box.y == (product_Green_g c[j]).1 && true))) = true := by
  unfold gok at agk
  rw [green_eq]
  simp only [Bool.and_true]
  exact agk
 have hfit : FitsB m.Box := by
  refine ⟨hx, hy, ⟨hz.1, hz.2.1, by omega⟩, ?_⟩
  have q := hgk
  rw [green_eq, ex, ey] at q
  simp only [Bool.or_eq_true, Bool.and_eq_true, Bool.and_true, beq_iff_eq] at q
  omega
 have hclip : clipD x.Defects m.Box = x.Defects.filterMap (clipOne m.Box) := by
  unfold clipD
  rw [if_pos ⟨hck, hfit.ok⟩]
 have hcl : checkL (clipD x.Defects m.Box) = 0 := by rw [hclip]; exact clip_check hck hfit
 have hcn := checkL_len hcl
 obtain ⟨pr, p1, _, p2⟩ := price_total (p := c[j]) (by have := V.prod.l; omega) (board_length_g m.Box.z)
 have hany : (c[j].Lengths.any fun e => e == board_length_g m.Box.z) = true := by
  have : pr.2 = true := by
   have q : (prc c[j] (board_length_g m.Box.z)).2 = true := apr
   unfold prc at q
   rw [p1] at q
   exact q
  obtain ⟨i, i1, _, i3, _⟩ := p2 this
  rw [List.any_eq_true]
  exact ⟨_, List.getElem_mem i1, by rw [i3]; simp⟩
 have hin : (clipD x.Defects m.Box).any (outB ⟨m.Id, m.Log, m.Species.Name, m.Product, m.Box, v, clipD x.Defects m.Box, w, ⟨m.Species.Green, m.Species.Green, 0⟩, false, 0⟩) = false := by
  rw [List.any_eq_false]
  intro d hd'
  rw [hclip] at hd'
  have q := clip_inside hck hfit.ok hd'
  unfold outB
  dsimp only
  rw [ex, ey, ez, inside_i q.1, inside_i q.2.1, inside_i q.2.2]
  simp
 have hww : w = wn m.Box.x m.Box.y m.Box.z x.Solid 0 0 := by
  have q := wane_val V.sol V.lc m.Box
  rw [hw, ax, ay, az] at q
  exact Option.some.inj q
 refine ⟨?_, by omega⟩
 unfold board_Check_g
 dsimp only
 rw [hc, k1, k2, k3]
 simp only [bind_some', Bool.not_true, cond_false]
 rw [show ((0 : Int) != 0) = false from rfl, cond_false, hp, decide_eq_false (by omega), cond_false, decide_eq_false (by omega), cond_false, isBox_eq, bind_some', decide_eq_true hbox, Bool.not_true, cond_false, getI_at hj, bind_some', letB_eq]
 have hs : (bif (!((board_length_g m.Box.x) == (product_Green_g c[j]).1 && ((board_length_g m.Box.y) == (product_Green_g c[j]).2 && true))) then (bif (!((board_length_g m.Box.x) == (product_Green_g c[j]).2 && ((board_length_g m.Box.y) == (product_Green_g c[j]).1 && true))) then some (Sum.inl 19) else some (Sum.inr ())) else some (Sum.inr ()) : Option (Int ⊕ Unit)) = some (.inr ()) := by
  revert hgk
  cases (board_length_g m.Box.x == (product_Green_g c[j]).1 && (board_length_g m.Box.y == (product_Green_g c[j]).2 && true)) with
  | true => intro _; rfl
  | false =>
   intro q
   rw [Bool.false_or] at q
   rw [q]
   rfl
 rw [hs, bind_some', Sum.elim_inr, index_eq (by have := V.prod.l; omega), bind_some', hany, Bool.not_true, cond_false, d_checkL_eq (by omega), bind_some', hcl, show ((0 : Int) != 0) = false from rfl, cond_false]
 have hloop := chk_loop (b := ⟨m.Id, m.Log, m.Species.Name, (j : Int), m.Box, v, clipD x.Defects m.Box, w, ⟨m.Species.Green, m.Species.Green, 0⟩, false, 0⟩) (by show (clipD x.Defects m.Box).length ≤ _; omega)
 rw [hp] at hin
 dsimp only at hloop
 rw [hin] at hloop
 rw [hloop, cond_false, bind_some', Sum.elim_inr, decide_eq_false (p := v < 0) (by omega), cond_false, bvol_eq, bind_some', rvol_eq, decide_eq_false (p := volN m.Box < v) (by omega), cond_false, decide_eq_false (p := w < 0) (by omega), cond_false, decide_eq_false (p := 1000 < w) (by omega), cond_false, moist_eq, decide_eq_false (p := m.Species.Green < 0) (by omega), decide_eq_false (p := 20000 < m.Species.Green) (by omega)]
 rfl
theorem boardAccepted_true (m : Tsawmilllaw30_Made) (x : Tsawmilllaw30_Log) (c : List TProduct) (hl : LowOk x.Solid) (hd : x.Defects.length ≤ 9223372036854775807) : l30_BoardAccepted_g m x c = some true := by
 unfold l30_BoardAccepted_g
 obtain ⟨b, hb, _⟩ := short30_total x
 obtain ⟨q, hq⟩ := short_total c
 obtain ⟨b1, i1, i2⟩ := is_both m.Id 66
 obtain ⟨b2, j1, j2⟩ := is_both m.Log 76
 obtain ⟨b3, n1, n2⟩ := name_both m.Species.Name
 obtain ⟨e, h1, _, _⟩ := catalog_both c
 rw [aw30, hb, hq, i2, j2, n2, h1]
 simp only [bind_some']
 cases b with
 | false => rfl
 | true =>
 cases q with
 | false => rfl
 | true =>
 cases b1 with
 | false => rfl
 | true =>
 cases b2 with
 | false => rfl
 | true =>
 cases b3 with
 | false => rfl
 | true =>
 simp only [Bool.not_true, cond_false]
 by_cases g1 : m.Species.Green < 0
 ·rw [decide_eq_true g1]; rfl
 rw [decide_eq_false g1, cond_false]
 by_cases g2 : 20000 < m.Species.Green
 ·rw [decide_eq_true g2]; rfl
 rw [decide_eq_false g2, cond_false]
 by_cases g3 : m.Product < 0
 ·rw [decide_eq_true g3]; rfl
 rw [decide_eq_false g3, cond_false]
 by_cases g4 : ((c.length : Nat) : Int) ≤ m.Product
 ·rw [decide_eq_true g4]; rfl
 rw [decide_eq_false g4, cond_false]
 obtain ⟨v, w, v1, v2, v3, v4, v5, _, v7⟩ := vols hl m.Box
 obtain ⟨j, hj⟩ := Int.eq_ofNat_of_zero_le (show 0 ≤ m.Product by omega)
 have hjl : j < c.length := by omega
 unfold l30_made_g board_New_g
 rw [v1, d_clip_eq _ hd, v2]
 simp only [bind_some']
 by_cases he : e = 0
 ·subst he
  rw [show ((0 : Int) == 0) = true from rfl, cond_true, hj, getI_at hjl]
  simp only [bind_some']
  rw [worth_Accept_eq hl]
  simp only [bind_some']
  cases hA : (vld x.Solid x.Defects c[j] && acc x.Solid x.Defects c[j] m.Box) with
  | false => rfl
  | true =>
   obtain ⟨r1, r2⟩ := accepted_check hl hd i1 j1 n1 ⟨by omega, by omega⟩ h1 hjl hj hA v1 v2 v5 (by rcases v7 with ⟨_, z | z⟩ | ⟨_, _, _, z, _⟩ <;> omega) ⟨v3, v4⟩
   rw [hj] at r1
   rw [cond_true, r1, bind_some', show ((0 : Int) == 0) = true from rfl, cond_true, decide_eq_true r2, cond_true]
 ·rw [show (e == 0) = false by simp [he]]
  rfl
end Go.Proofs.YtpoehckffpbfiaaGreat
