/- B6: what functions of the program compute (written by mod.py). -/
import Derived.Test.YtpoehckffpbfiaaB5
import Derived.KernelRfl
namespace Go.Proofs.Ytpoehckffpbfiaa
open Go Go.Ab
set_option linter.unusedSimpArgs false
set_option linter.unusedVariables false
set_option linter.unusedSectionVars false
set_option maxRecDepth 20000
set_option maxHeartbeats 1000000

/-! back -/
theorem its_rng : ∀ {m : Nat} {l : List Nat} {low high : Int}, (its m l low high).2.2 = 0 → ∀ n ∈ (its m l low high).1, low ≤ n ∧ n ≤ high
  | 0, l, low, high, _ => by simp [its]
  | m + 1, l, low, high, h => by
    have ih := @its_rng m (l.drop (sgn l low high).2.1) low high
    have hp : (sgn l low high).2.2 = 0 → low ≤ (sgn l low high).1 ∧ (sgn l low high).1 ≤ high := by
      unfold sgn
      split
      · rename_i h1
        intro h2
        exact absurd h2 h1
      · split
        · intro h2
          cases h2
        · rename_i h3
          intro _
          dsimp only
          omega
    rw [its] at h ⊢
    by_cases h1 : (sgn l low high).2.2 ≠ 0
    · rw [if_pos h1] at h
      exact absurd h h1
    · rw [if_neg h1] at h ⊢
      by_cases h2 : (its m (l.drop (sgn l low high).2.1) low high).2.2 ≠ 0
      · rw [if_pos h2] at h
        exact absurd h h2
      · rw [if_neg h2] at h ⊢
        intro n hn
        rcases List.mem_cons.1 hn with rfl | hn
        · exact hp (by omega)
        · exact ih (by omega) n hn
theorem ints_rng {l : List Nat} {most low high : Int} (h : (ints l most low high).2.2 = 0) : ∀ n ∈ (ints l most low high).1, low ≤ n ∧ n ≤ high := by
  unfold ints at h ⊢
  by_cases h1 : (cnt l most).2.2 ≠ 0
  · rw [if_pos h1] at h
    exact absurd h h1
  · rw [if_neg h1] at h ⊢
    by_cases h2 : (its (cnt l most).1 (l.drop (cnt l most).2.1) low high).2.2 ≠ 0
    · rw [if_pos h2] at h
      exact absurd h h2
    · rw [if_neg h2] at h ⊢
      exact its_rng (by omega)
theorem txt_most {l : List Nat} {most : Int} (h : (txt l most).2.2 = 0) : ((txt l most).1.length : Int) ≤ most := by
  unfold txt at h ⊢
  by_cases h1 : (cnt l most).2.2 ≠ 0
  · rw [if_pos h1] at h
    exact absurd h h1
  · rw [if_neg h1] at h ⊢
    split at h
    · simp at h
    · rename_i h2
      rw [if_neg h2]
      have h4 := cnt_pos (l := l) (most := most) (by omega)
      dsimp only
      rw [List.length_take]
      omega
theorem ob_lt {o : TBoard} {c : Nat} (h : c ∈ ob o) : c < 256 := by
  unfold ob at h
  rcases List.mem_append.1 h with h | h
  · rcases List.mem_append.1 h with h | h
    · rcases List.mem_append.1 h with h | h
      · rcases List.mem_append.1 h with h | h
        · exact tb_lt h
        · exact tb_lt h
      · exact tb_lt h
    · exact ib_lt h
  · exact ib_lt h
/-- a board that can be written -/
def okB (b : TBoard) : Prop := b.Id.size ≤ 16 ∧ b.Log.size ≤ 16 ∧ b.Species.size ≤ 16 ∧ b.Defects.length ≤ 64 ∧ (numsB b).any wideN = false ∧ (numsD b.Defects).any wideN = false
theorem enc_ok {b : TBoard} (h : okB b) : enc30 b = (mkS (ob b), 0) := by
  obtain ⟨h1, h2, h3, h4, h5, h6⟩ := h
  unfold enc30
  rw [if_neg (by omega), if_neg (by omega), h5, h6, if_neg (by simp)]
theorem enc_cases (b : TBoard) : (∃ e : Int, e ≠ 0 ∧ enc30 b = (⟨#[]⟩, e)) ∨ okB b := by
  unfold enc30
  by_cases h1 : 16 < b.Id.size ∨ 16 < b.Log.size ∨ 16 < b.Species.size
  · rw [if_pos h1]
    exact .inl ⟨6, by decide, rfl⟩
  rw [if_neg h1]
  by_cases h2 : 64 < b.Defects.length
  · rw [if_pos h2]
    exact .inl ⟨4, by decide, rfl⟩
  rw [if_neg h2]
  cases h3 : ((numsB b).any wideN || (numsD b.Defects).any wideN) with
  | true => exact .inl ⟨9, by decide, rfl⟩
  | false =>
    rw [Bool.or_eq_false_iff] at h3
    exact .inr ⟨by omega, by omega, by omega, by omega, h3.1, h3.2⟩
theorem ob_size {b : TBoard} (h : okB b) : (mkS (ob b)).size ≤ 1000000 := by
  obtain ⟨h1, h2, h3, h4, h5, h6⟩ := h
  have hn := narrow h5
  have hm := narrow h6
  have hD := numsD_len b.Defects
  have k1 := tb_len (s := b.Id) (by omega)
  have k2 := tb_len (s := b.Log) (by omega)
  have k3 := tb_len (s := b.Species) (by omega)
  have k4 := ib_len9 (l := numsB b) (fun n h => (hn n h).1) (by show 14 ≤ 1000; omega)
  have k5 := ib_len9 (l := numsD b.Defects) (fun n h => (hm n h).1) (by omega)
  rw [mkS_size]
  unfold ob
  rw [List.length_append, List.length_append, List.length_append, List.length_append]
  omega
theorem rdT_back {t : ByteArray} {A R : List Nat} (h : t.size ≤ 16) : rdT (A ++ (tb t ++ R)) (A.length, 0) = (bl t, A.length + (tb t).length, 0) := by
  unfold rdT
  rw [if_pos rfl]
  dsimp only
  rw [List.drop_left' rfl, txt_back (by omega) (by omega)]
  simp [nat_]
theorem rdI_back {most : Int} {l : List Int} {A R : List Nat} (h : (l.length : Int) ≤ most) (h2 : l.length ≤ 1000000) (hl : l.any wideN = false) : rdI most (A ++ (ib l ++ R)) (A.length, 0) = (l, A.length + (ib l).length, 0) := by
  unfold rdI
  rw [if_pos rfl]
  dsimp only
  rw [List.drop_left' rfl, ints_back (by omega) h R (narrow hl)]
  simp [nat_]
theorem mkB_nums (b : TBoard) : mkB b.Id b.Log b.Species b.Defects (numsB b) = b := by
  unfold mkB numsB dnum
  obtain ⟨a1, a2, a3, a4, a5, a6, a7, a8, a9, a10, a11⟩ := b
  cases a10 <;> rfl
theorem len_app (A B : List Nat) : (A ++ B).length = A.length + B.length := List.length_append
theorem back_read {b : TBoard} (h : okB b) : dec30 (mkS (ob b)) = (b, 0) := by
  obtain ⟨h1, h2, h3, h4, h5, h6⟩ := h
  have hbl : bl (mkS (ob b)) = ob b := bl_mkS fun _ => ob_lt
  have hD := numsD_len b.Defects
  have e1 : T1 (ob b) = (bl b.Id, (tb b.Id).length, 0) := by
    have := rdT_back (A := []) (R := tb b.Log ++ (tb b.Species ++ (ib (numsB b) ++ ib (numsD b.Defects)))) h1
    unfold T1
    rw [show ob b = [] ++ (tb b.Id ++ (tb b.Log ++ (tb b.Species ++ (ib (numsB b) ++ ib (numsD b.Defects))))) by unfold ob; simp]
    simpa using this
  have e2 : T2 (ob b) = (bl b.Log, (tb b.Id ++ tb b.Log).length, 0) := by
    have := rdT_back (A := tb b.Id) (R := tb b.Species ++ (ib (numsB b) ++ ib (numsD b.Defects))) h2
    unfold T2
    rw [e1, show ob b = tb b.Id ++ (tb b.Log ++ (tb b.Species ++ (ib (numsB b) ++ ib (numsD b.Defects)))) by unfold ob; simp, this, List.length_append]
  have e3 : T3 (ob b) = (bl b.Species, (tb b.Id ++ tb b.Log ++ tb b.Species).length, 0) := by
    have := rdT_back (A := tb b.Id ++ tb b.Log) (R := ib (numsB b) ++ ib (numsD b.Defects)) h3
    unfold T3
    rw [e2, show ob b = (tb b.Id ++ tb b.Log) ++ (tb b.Species ++ (ib (numsB b) ++ ib (numsD b.Defects))) by unfold ob; simp, this, len_app (tb b.Id ++ tb b.Log)]
  have e4 : T4 (ob b) = (numsB b, (tb b.Id ++ tb b.Log ++ tb b.Species ++ ib (numsB b)).length, 0) := by
    have := rdI_back (most := 14) (A := tb b.Id ++ tb b.Log ++ tb b.Species) (R := ib (numsD b.Defects)) (l := numsB b) (by show (14 : Int) ≤ 14; omega) (by show 14 ≤ _; omega) h5
    unfold T4
    rw [e3, show ob b = (tb b.Id ++ tb b.Log ++ tb b.Species) ++ (ib (numsB b) ++ ib (numsD b.Defects)) by unfold ob; simp, this, len_app (tb b.Id ++ tb b.Log ++ tb b.Species)]
  have e5 : T5 (ob b) = (numsD b.Defects, (ob b).length, 0) := by
    have := rdI_back (most := 448) (A := tb b.Id ++ tb b.Log ++ tb b.Species ++ ib (numsB b)) (R := []) (l := numsD b.Defects) (by omega) (by omega) h6
    rw [List.append_nil] at this
    unfold T5
    rw [e4]
    show rdI 448 (tb b.Id ++ tb b.Log ++ tb b.Species ++ ib (numsB b) ++ ib (numsD b.Defects)) _ = _
    rw [this]
    unfold ob
    rw [len_app (tb b.Id ++ tb b.Log ++ tb b.Species ++ ib (numsB b))]
  unfold dec30
  rw [hbl, e1, e2, e3, e4, e5, if_pos]
  · dsimp only
    rw [mkS_bl, mkS_bl, mkS_bl, unD_numsD, mkB_nums]
  · refine ⟨rfl, by rw [mkS_size], rfl, by show (numsD b.Defects).length % 7 = 0; omega, ?_⟩
    unfold flagOk numsB dnum
    cases b.Dried
    · exact .inl rfl
    · exact .inr rfl
theorem rdT_ok {L : List Nat} {p : Nat × Nat} (h : (rdT L p).2.2 = 0) : p.2 = 0 ∧ (txt (L.drop p.1) 16).2.2 = 0 ∧ rdT L p = ((txt (L.drop p.1) 16).1, p.1 + (txt (L.drop p.1) 16).2.1, 0) := by
  unfold rdT at h ⊢
  by_cases h0 : p.2 = 0
  · rw [if_pos h0] at h ⊢
    dsimp only at h
    refine ⟨h0, h, ?_⟩
    rw [h]
    simp [nat_]
  · rw [if_neg h0] at h
    exact absurd h h0
theorem rdI_ok {most : Int} {L : List Nat} {p : Nat × Nat} (h : (rdI most L p).2.2 = 0) : p.2 = 0 ∧ (ints (L.drop p.1) most (-1099511627776) 1099511627776).2.2 = 0 ∧ rdI most L p = ((ints (L.drop p.1) most (-1099511627776) 1099511627776).1, p.1 + (ints (L.drop p.1) most (-1099511627776) 1099511627776).2.1, 0) := by
  unfold rdI at h ⊢
  by_cases h0 : p.2 = 0
  · rw [if_pos h0] at h ⊢
    dsimp only at h
    refine ⟨h0, h, ?_⟩
    rw [h]
    simp [nat_]
  · rw [if_neg h0] at h
    exact absurd h h0
theorem fwd {s : ByteArray} (h : (dec30 s).2 = 0) : okB (dec30 s).1 ∧ mkS (ob (dec30 s).1) = s := by
  unfold dec30 at h ⊢
  by_cases hc : decOk s.size (T4 (bl s)) (T5 (bl s))
  · rw [if_pos hc]
    obtain ⟨c1, c2, c3, c4, c5⟩ := hc
    have hlt : ∀ k, ∀ c ∈ (bl s).drop k, c < 256 := fun k c hc => bl_drop_lt hc
    obtain ⟨p5, q5, d5⟩ := rdI_ok (most := 448) (L := bl s) (p := (T4 (bl s)).2) c1
    obtain ⟨p4, q4, d4⟩ := rdI_ok (most := 14) (L := bl s) (p := (T3 (bl s)).2) p5
    obtain ⟨p3, q3, d3⟩ := rdT_ok (L := bl s) (p := (T2 (bl s)).2) p4
    obtain ⟨p2, q2, d2⟩ := rdT_ok (L := bl s) (p := (T1 (bl s)).2) p3
    obtain ⟨p1, q1, d1⟩ := rdT_ok (L := bl s) (p := (0, 0)) p2
    have d1 : T1 (bl s) = _ := d1
    have d2 : T2 (bl s) = _ := d2
    have d3 : T3 (bl s) = _ := d3
    have d4 : T4 (bl s) = _ := d4
    have d5 : T5 (bl s) = _ := d5
    have i1 := txt_inv (hlt _) q1
    have i2 := txt_inv (hlt _) q2
    have i3 := txt_inv (hlt _) q3
    have i4 := ints_inv (hlt _) q4
    have i5 := ints_inv (hlt _) q5
    have r4 := ints_rng q4
    have r5 := ints_rng q5
    have m1 := txt_most q1
    have m2 := txt_most q2
    have m3 := txt_most q3
    have m5 := T5_most (bl s)
    rw [show (txt ((bl s).drop ((0 : Nat), (0 : Nat)).1) 16).1 = (T1 (bl s)).1 by rw [d1]] at i1 m1
    rw [show (txt ((bl s).drop (T1 (bl s)).2.1) 16).1 = (T2 (bl s)).1 by rw [d2]] at i2 m2
    rw [show (txt ((bl s).drop (T2 (bl s)).2.1) 16).1 = (T3 (bl s)).1 by rw [d3]] at i3 m3
    rw [show (ints ((bl s).drop (T3 (bl s)).2.1) 14 (-1099511627776) 1099511627776).1 = (T4 (bl s)).1 by rw [d4]] at i4 r4
    rw [show (ints ((bl s).drop (T4 (bl s)).2.1) 448 (-1099511627776) 1099511627776).1 = (T5 (bl s)).1 by rw [d5]] at i5 r5
    have s1 : (T1 (bl s)).2.1 = 0 + (txt ((bl s).drop 0) 16).2.1 := by rw [d1]
    have s2 : (T2 (bl s)).2.1 = (T1 (bl s)).2.1 + (txt ((bl s).drop (T1 (bl s)).2.1) 16).2.1 := by rw [d2]
    have s3 : (T3 (bl s)).2.1 = (T2 (bl s)).2.1 + (txt ((bl s).drop (T2 (bl s)).2.1) 16).2.1 := by rw [d3]
    have s4 : (T4 (bl s)).2.1 = (T3 (bl s)).2.1 + (ints ((bl s).drop (T3 (bl s)).2.1) 14 (-1099511627776) 1099511627776).2.1 := by rw [d4]
    have s5 : (T5 (bl s)).2.1 = (T4 (bl s)).2.1 + (ints ((bl s).drop (T4 (bl s)).2.1) 448 (-1099511627776) 1099511627776).2.1 := by rw [d5]
    have hw : ∀ {l : List Int}, (∀ n ∈ l, -1099511627776 ≤ n ∧ n ≤ 1099511627776) → l.any wideN = false := by
      intro l hl
      rw [List.any_eq_false]
      intro n hn
      have := hl n hn
      unfold wideN
      rw [decide_eq_false (by omega), decide_eq_false (by omega)]
      simp
    have w4 := hw r4
    have w5 := hw r5
    clear d1 d2 d3 d4 d5 p1 p2 p3 p4 p5 q1 q2 q3 q4 q5 c1 r4 r5 hw h
    obtain ⟨n1, t1⟩ : ∃ n1, n1 = (T1 (bl s)).2.1 := ⟨_, rfl⟩
    obtain ⟨n2, t2⟩ : ∃ n2, n2 = (T2 (bl s)).2.1 := ⟨_, rfl⟩
    obtain ⟨n3, t3⟩ : ∃ n3, n3 = (T3 (bl s)).2.1 := ⟨_, rfl⟩
    obtain ⟨n4, t4⟩ : ∃ n4, n4 = (T4 (bl s)).2.1 := ⟨_, rfl⟩
    have u1 := i1.1
    have u2 := i2.1
    have u3 := i3.1
    have u4 := i4.1
    have u5 := i5.1
    have hall : tb (mkS (T1 (bl s)).1) ++ tb (mkS (T2 (bl s)).1) ++ tb (mkS (T3 (bl s)).1) ++ ib (T4 (bl s)).1 ++ ib (T5 (bl s)).1 = bl s := by
      rw [u1, u2, u3, u4, u5]
      show (bl s).take _ ++ _ ++ _ ++ _ ++ _ = _
      rw [← t1] at s1 s2 ⊢
      rw [← t2] at s2 s3 ⊢
      rw [← t3] at s3 s4 ⊢
      rw [← t4] at s4 s5 ⊢
      rw [show (txt ((bl s).drop 0) 16).2.1 = n1 by omega]
      have f2 : (bl s).take n1 ++ ((bl s).drop n1).take (txt ((bl s).drop n1) 16).2.1 = (bl s).take n2 := by rw [s2, List.take_add]
      have f3 : (bl s).take n2 ++ ((bl s).drop n2).take (txt ((bl s).drop n2) 16).2.1 = (bl s).take n3 := by rw [s3, List.take_add]
      have f4 : (bl s).take n3 ++ ((bl s).drop n3).take (ints ((bl s).drop n3) 14 (-1099511627776) 1099511627776).2.1 = (bl s).take n4 := by rw [s4, List.take_add]
      rw [f2, f3, f4, ← List.take_add, ← s5, c2, ← bl_length, List.take_length]
    obtain ⟨x1, x2, x3, x4, x5, x6, x7, x8, x9, x10, x11, x12, x13, x14, hx⟩ := n14 c3
    have hnums : numsB (mkB (mkS (T1 (bl s)).1) (mkS (T2 (bl s)).1) (mkS (T3 (bl s)).1) (unD (T5 (bl s)).1) (T4 (bl s)).1) = (T4 (bl s)).1 := by
      rw [hx] at c5 ⊢
      unfold numsB mkB dnum
      dsimp only
      have : x13 = 0 ∨ x13 = 1 := by
        rcases c5 with z | z
        · exact .inl (Option.some.inj z)
        · exact .inr (Option.some.inj z)
      rcases this with rfl | rfl <;> rfl
    have hf : (mkB (mkS (T1 (bl s)).1) (mkS (T2 (bl s)).1) (mkS (T3 (bl s)).1) (unD (T5 (bl s)).1) (T4 (bl s)).1).Id = mkS (T1 (bl s)).1 ∧ (mkB (mkS (T1 (bl s)).1) (mkS (T2 (bl s)).1) (mkS (T3 (bl s)).1) (unD (T5 (bl s)).1) (T4 (bl s)).1).Log = mkS (T2 (bl s)).1 ∧ (mkB (mkS (T1 (bl s)).1) (mkS (T2 (bl s)).1) (mkS (T3 (bl s)).1) (unD (T5 (bl s)).1) (T4 (bl s)).1).Species = mkS (T3 (bl s)).1 ∧ (mkB (mkS (T1 (bl s)).1) (mkS (T2 (bl s)).1) (mkS (T3 (bl s)).1) (unD (T5 (bl s)).1) (T4 (bl s)).1).Defects = unD (T5 (bl s)).1 := by
      rw [hx]
      exact ⟨rfl, rfl, rfl, rfl⟩
    obtain ⟨f1, f2, f3, f4⟩ := hf
    have hul := unD_len c4
    refine ⟨⟨?_, ?_, ?_, ?_, ?_, ?_⟩, ?_⟩
    · rw [f1, mkS_size]; omega
    · rw [f2, mkS_size]; omega
    · rw [f3, mkS_size]; omega
    · rw [f4, hul]; omega
    · rw [hnums]; exact w4
    · rw [f4, numsD_unD _ c4]; exact w5
    · unfold ob
      rw [hnums, f1, f2, f3, f4, numsD_unD _ c4, hall, mkS_bl]
  · rw [if_neg hc] at h
    exact absurd h (by simp)
theorem dec_err {s : ByteArray} (h : (dec30 s).2 ≠ 0) : dec30 s = (zB, 5) := by
  unfold dec30 at h ⊢
  by_cases hc : decOk s.size (T4 (bl s)) (T5 (bl s))
  · rw [if_pos hc] at h
    exact absurd rfl h
  · rw [if_neg hc]

end Go.Proofs.Ytpoehckffpbfiaa
