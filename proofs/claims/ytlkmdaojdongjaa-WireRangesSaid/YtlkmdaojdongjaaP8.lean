/- P8: what functions of the program compute (written by mod.py). -/
import Derived.Test.YtlkmdaojdongjaaP7
import Derived.KernelRfl
namespace Go.Proofs.Ytlkmdaojdongjaa
open Go Go.Ab
set_option linter.unusedSimpArgs false
set_option linter.unusedVariables false
set_option maxRecDepth 20000

/-! the other laws -/
def fb (f : Tsawmilllaw05_Field) : List Nat := if f.Kind = 0 then uv f.N.toNat else if f.Kind = 1 then ub f.I_ else if f.Kind = 2 then tb f.T else ib f.L
structure FOk (f : Tsawmilllaw05_Field) : Prop where
  n : 0 ≤ f.N ∧ f.N < 18446744073709551616
  i : I64 f.I_
  t : f.T.size ≤ 1000000000000
  l : f.L.length ≤ 1000000000000
  e : ∀ n ∈ f.L, I64 n
theorem write_eq {f : Tsawmilllaw05_Field} (h : FOk f) : l05_write_g f = some (mkS (fb f)) := by
  unfold l05_write_g fb
  by_cases h0 : f.Kind = 0
  · have hn := h.n
    rw [bq_t h0, cond_true, if_pos h0]
    have e : f.N = ((f.N.toNat : Nat) : Int) := by omega
    rw [e, wire_uint (by omega), bind_some', Int.toNat_natCast]
  · rw [bq_f h0, cond_false, if_neg h0]
    by_cases h1 : f.Kind = 1
    · rw [bq_t h1, cond_true, if_pos h1, wire_int h.i]
      rfl
    · rw [bq_f h1, cond_false, if_neg h1]
      by_cases h2 : f.Kind = 2
      · rw [bq_t h2, cond_true, if_pos h2, wire_text h.t]
        rfl
      · rw [bq_f h2, cond_false, if_neg h2, wire_ints h.l h.e]
        rfl
theorem fb_lt {f : Tsawmilllaw05_Field} {c : Nat} (h : c ∈ fb f) : c < 256 := by
  unfold fb at h
  split at h
  · exact uv_lt _ c h
  · split at h
    · exact uv_lt _ c h
    · split at h
      · exact tb_lt h
      · exact ib_lt h
theorem bl_fb (f : Tsawmilllaw05_Field) : bl (mkS (fb f)) = fb f := bl_mkS fun _ => fb_lt
theorem fb_pos (f : Tsawmilllaw05_Field) : 1 ≤ (fb f).length := by
  unfold fb
  split
  · exact uv_pos _
  · split
    · exact uv_pos _
    · split
      · have := uv_pos f.T.size
        unfold tb
        rw [List.length_append]
        omega
      · have := uv_pos f.L.length
        unfold ib
        rw [List.length_append]
        omega
def clean (f : Tsawmilllaw05_Field) : Tsawmilllaw05_Field := if f.Kind = 0 then ⟨f.Kind, f.N, 0, ⟨#[]⟩, []⟩ else if f.Kind = 1 then ⟨f.Kind, 0, f.I_, ⟨#[]⟩, []⟩ else if f.Kind = 2 then ⟨f.Kind, 0, 0, f.T, []⟩ else ⟨f.Kind, 0, 0, ⟨#[]⟩, f.L⟩
/-- An operation that takes the field. -/
structure Takes (f : Tsawmilllaw05_Field) (o : Tsawmilllaw05_Op) : Prop where
  ok : o.ok
  k : o.Kind = f.Kind
  i : f.Kind = 1 → o.Low ≤ f.I_ ∧ f.I_ ≤ o.High
  t : f.Kind = 2 → (f.T.size : Int) ≤ o.Most
  l : 2 < f.Kind → (f.L.length : Int) ≤ o.Most ∧ ∀ n ∈ f.L, o.Low ≤ n ∧ n ≤ o.High
theorem rd_back {f : Tsawmilllaw05_Field} (hf : FOk f) (hk : 0 ≤ f.Kind) {o : Tsawmilllaw05_Op} (h : Takes f o) (rest : List Nat) : rd (fb f ++ rest) o = (clean f, (fb f).length, 0) := by
  unfold rd fb clean
  rw [h.k]
  by_cases h0 : f.Kind = 0
  · have hn := hf.n
    rw [if_pos h0, if_pos h0, if_pos h0, num_back (by omega)]
    dsimp only
    rw [show ((f.N.toNat : Nat) : Int) = f.N by omega]
  · rw [if_neg h0, if_neg h0, if_neg h0]
    by_cases h1 : f.Kind = 1
    · rw [if_pos h1, if_pos h1, if_pos h1, sgn_back hf.i (h.i h1).1 (h.i h1).2]
    · rw [if_neg h1, if_neg h1, if_neg h1]
      by_cases h2 : f.Kind = 2
      · have := hf.t
        rw [if_pos h2, if_pos h2, if_pos h2, txt_back (by omega) (h.t h2)]
        dsimp only
        rw [mkS_bl]
      · have := hf.l
        have h3 := h.l (by omega)
        rw [if_neg h2, if_neg h2, if_neg h2, ints_back (by omega) h3.1 rest fun n hn => ⟨hf.e n hn, h3.2 n hn⟩]
theorem rd_cut {f : Tsawmilllaw05_Field} (hf : FOk f) (hk : 0 ≤ f.Kind) {o : Tsawmilllaw05_Op} (h : Takes f o) {k : Nat} (hk2 : k < (fb f).length) : (rd ((fb f).take k) o).2.2 = 3 := by
  unfold rd
  unfold fb at hk2 ⊢
  rw [h.k]
  by_cases h0 : f.Kind = 0
  · have hn := hf.n
    rw [if_pos h0] at hk2 ⊢
    rw [if_pos h0, num_cut (by omega) hk2]
  · rw [if_neg h0] at hk2 ⊢
    rw [if_neg h0]
    by_cases h1 : f.Kind = 1
    · rw [if_pos h1] at hk2 ⊢
      rw [if_pos h1]
      exact sgn_cut hf.i hk2
    · rw [if_neg h1] at hk2 ⊢
      rw [if_neg h1]
      by_cases h2 : f.Kind = 2
      · have := hf.t
        rw [if_pos h2] at hk2 ⊢
        rw [if_pos h2]
        exact txt_cut (by omega) (h.t h2) hk2
      · have := hf.l
        have h3 := h.l (by omega)
        rw [if_neg h2] at hk2 ⊢
        rw [if_neg h2]
        exact ints_cut (by omega) h3.1 (fun n hn => ⟨hf.e n hn, h3.2 n hn⟩) hk2
theorem I64_0 : I64 0 := by unfold I64; omega
theorem rd_inv {l : List Nat} {o : Tsawmilllaw05_Op} (hl : ∀ c ∈ l, c < 256) (hl2 : l.length ≤ 1000000000000) (h : (rd l o).2.2 = 0) : fb (rd l o).1 = l.take (rd l o).2.1 ∧ FOk (rd l o).1 := by
  unfold rd at h ⊢
  unfold fb
  by_cases h0 : o.Kind = 0
  · rw [if_pos h0] at h ⊢
    dsimp only
    rw [if_pos h0]
    have := num_64 hl
    exact ⟨(num_inv hl h).1, ⟨by dsimp only; omega, I64_0, by show (0 : Nat) ≤ _; omega, by simp, by simp⟩⟩
  · rw [if_neg h0] at h ⊢
    by_cases h1 : o.Kind = 1
    · rw [if_pos h1] at h ⊢
      dsimp only
      rw [if_neg h0, if_pos h1]
      have := sgn_inv hl h
      exact ⟨this.1, ⟨by dsimp only; omega, this.2, by show (0 : Nat) ≤ _; omega, by simp, by simp⟩⟩
    · rw [if_neg h1] at h ⊢
      by_cases h2 : o.Kind = 2
      · rw [if_pos h2] at h ⊢
        dsimp only
        rw [if_neg h0, if_neg h1, if_pos h2]
        have := txt_inv hl h
        exact ⟨this.1, ⟨by dsimp only; omega, I64_0, by dsimp only; omega, by simp, by simp⟩⟩
      · rw [if_neg h2] at h ⊢
        dsimp only
        rw [if_neg h0, if_neg h1, if_neg h2]
        have := ints_inv hl h
        exact ⟨this.1, ⟨by dsimp only; omega, I64_0, by show (0 : Nat) ≤ _; omega, by have := ints_len l o.Most o.Low o.High; dsimp only; omega, this.2⟩⟩
def exf (o : Tsawmilllaw05_Op) (n : Int) : Tsawmilllaw05_Op := ⟨o.Kind, min o.Low n, max o.High n, o.Most⟩
theorem exf_fold : ∀ (L : List Int) (o : Tsawmilllaw05_Op), o.ok → (∀ n ∈ L, I64 n) → (L.foldl exf o).ok ∧ (L.foldl exf o).Kind = o.Kind ∧ (L.foldl exf o).Most = o.Most ∧ (L.foldl exf o).Low ≤ o.Low ∧ o.High ≤ (L.foldl exf o).High ∧ ∀ n ∈ L, (L.foldl exf o).Low ≤ n ∧ n ≤ (L.foldl exf o).High
  | [], o, ho, _ => ⟨ho, rfl, rfl, by simp, by simp, by simp⟩
  | n :: L, o, ho, hL => by
    have hn := hL n (List.mem_cons_self ..)
    have hk : (exf o n).ok := by
      obtain ⟨h1, h2, h3, h4⟩ := ho
      unfold I64 at *
      refine ⟨h1, ?_, ?_, h4⟩
      · show I64 (min o.Low n)
        unfold I64
        omega
      · show I64 (max o.High n)
        unfold I64
        omega
    obtain ⟨i1, i2, i3, i4, i5, i6⟩ := exf_fold L (exf o n) hk fun m hm => hL m (List.mem_cons_of_mem _ hm)
    rw [List.foldl_cons]
    have e1 : (exf o n).Low = min o.Low n := rfl
    have e2 : (exf o n).High = max o.High n := rfl
    refine ⟨i1, i2, i3, by omega, by omega, fun m hm => ?_⟩
    rcases List.mem_cons.1 hm with rfl | hm
    · omega
    · exact i6 m hm
theorem exact_eq {f : Tsawmilllaw05_Field} (hf : FOk f) (hk : 0 ≤ f.Kind ∧ f.Kind < 256) : ∃ o, l05_exact_g f = some o ∧ Takes f o := by
  have h1 := hf.l
  have h2 := hf.t
  unfold l05_exact_g
  by_cases h : 2 < f.Kind
  · rw [decide_eq_true h, cond_true]
    have := loopO_fold (step := fun q : Int × Tsawmilllaw05_Op => l05_exact_s1 f q.1 q.2) f.L exf ⟨f.Kind, 9223372036854775807, (-9223372036854775808), ((f.L.length : Nat) : Int)⟩ (fun o j => ((j : Int), o)) (fun o => o) (fun o j hj => by
      unfold l05_exact_s1
      dsimp only
      rw [lt_nat hj, cond_true, getI_at hj, bind_some', bind_some', W64_succ (by omega)]
      rfl) (fun o => by
      unfold l05_exact_s1
      dsimp only
      rw [nlt_nat]
      rfl)
    have e0 : ((0 : Nat) : Int) = 0 := rfl
    rw [e0] at this
    rw [this, bind_some']
    obtain ⟨i1, i2, i3, i4, i5, i6⟩ := exf_fold f.L ⟨f.Kind, 9223372036854775807, (-9223372036854775808), ((f.L.length : Nat) : Int)⟩ ⟨hk, by unfold I64; dsimp only; omega, by unfold I64; dsimp only; omega, by unfold I64; dsimp only; omega⟩ hf.e
    exact ⟨_, rfl, ⟨i1, i2, fun h => by omega, fun h => by omega, fun _ => ⟨by rw [i3]; exact Int.le_refl _, i6⟩⟩⟩
  · rw [decide_eq_false h, cond_false, bind_some']
    exact ⟨_, rfl, ⟨⟨hk, hf.i, hf.i, by unfold I64; dsimp only; omega⟩, rfl, fun _ => ⟨Int.le_refl _, Int.le_refl _⟩, fun _ => Int.le_refl _, fun h' => absurd h' h⟩⟩
theorem small_iff {f : Tsawmilllaw05_Field} : l05_small_g f = true ↔ f.T.size ≤ 3000 ∧ f.L.length ≤ 300 := by
  unfold l05_small_g
  by_cases h : f.T.size ≤ 3000
  · rw [decide_eq_true (by omega), cond_true, decide_eq_true_eq]
    omega
  · rw [decide_eq_false (by omega), cond_false]
    simp
    omega
theorem fok_of {f : Tsawmilllaw05_Field} (hf : f.ok) (h : l05_small_g f = true) : FOk f := by
  have := small_iff.1 h
  exact ⟨hf.2.1, hf.2.2.1, by omega, by omega, hf.2.2.2.2.2⟩
theorem fb_small {f : Tsawmilllaw05_Field} (hf : f.ok) (h : l05_small_g f = true) : (fb f).length ≤ 3010 := by
  have hs := small_iff.1 h
  have hn := hf.2.1
  unfold fb
  split
  · have := uv_le (n := f.N.toNat) (by omega)
    omega
  · split
    · have := ub_le hf.2.2.1
      omega
    · split
      · have := uv_le (n := f.T.size) (by omega)
        unfold tb
        rw [List.length_append, bl_length]
        omega
      · have := uv_le (n := f.L.length) (by omega)
        have := il_len hf.2.2.2.2.2
        unfold ib
        rw [List.length_append]
        omega
theorem read0 {s : ByteArray} (hs : s.size ≤ 1000000000000) {a : Nat} (ha : a ≤ s.size) {o : Tsawmilllaw05_Op} (ho : o.ok) : l05_read_g (wR s a 0) o = some ((rd ((bl s).drop a) o).1, wR s (nat_ a (rd ((bl s).drop a) o).2.1 (rd ((bl s).drop a) o).2.2) (rd ((bl s).drop a) o).2.2) := by
  have := read_eq hs (a := (a, 0)) ha ho
  unfold fld nxt at this
  rw [if_pos rfl, if_pos rfl] at this
  exact this
theorem wireCut_true (f : Tsawmilllaw05_Field) (n : Int) (hf : f.ok) (hn : 0 ≤ n ∧ n < 65536) : l05_WireCut_g f n = some true := by
  unfold l05_WireCut_g
  rw [aw05]
  by_cases h : l05_small_g f = true
  · have hF := fok_of hf h
    have hl := fb_small hf h
    have hp := fb_pos f
    rw [h, show (!true) = false from rfl, cond_false, write_eq hF, bind_some', mkS_size, bq_f (by omega), cond_false, show ((((fb f).length : Nat) : Int) != 0) = true from ne0_t (by omega), cond_true, W64_eq (by omega) (by omega)]
    obtain ⟨m, rfl⟩ : ∃ m : Nat, n = m := ⟨n.toNat, by omega⟩
    have e1 : Int.tmod (m : Int) (((fb f).length : Nat) : Int) = ((m % (fb f).length : Nat) : Int) := by rw [Int.tmod_eq_emod_of_nonneg (by omega)]; rfl
    have hlt := Nat.mod_lt m (show 0 < (fb f).length by omega)
    rw [e1, ssubO_eq (by omega) (by omega) (by rw [mkS_size]; omega), bind_some', letB_eq]
    generalize hk : m % (fb f).length = k at *
    have et : bl ((mkS (fb f)).extract (0 : Int).toNat ((k : Int)).toNat) = (fb f).take k := by
      rw [bl_extract, bl_fb]
      rfl
    generalize ht : (mkS (fb f)).extract (0 : Int).toNat ((k : Int)).toNat = t at *
    have hts : t.size = k := by
      rw [← bl_length, et, List.length_take]
      omega
    obtain ⟨o, ho, hT⟩ := exact_eq hF hf.1
    have hr := rd_cut hF hf.1.1 hT hlt
    rw [ho, bind_some', show wire_NewReader_g t = wR t 0 0 from rfl, read0 (by omega) (by omega) hT.ok, bind_some', List.drop_zero, et]
    dsimp only
    rw [rd_zero (by omega), hr, show l05_zero_g (⟨o.Kind, 0, 0, ⟨#[]⟩, []⟩ : Tsawmilllaw05_Field) = true from rfl, cond_true, err_eq, show (((3 : Nat) : Int) == 3) = true from rfl, cond_true]
    unfold nat_
    rw [if_neg (by omega), left_eq (by omega) (by omega), bq_t (by omega)]
    rfl
  · have : l05_small_g f = false := by simpa using h
    rw [this]
    rfl
theorem wireRanges_true (n : Int) (s : ByteArray) (o : Tsawmilllaw05_Op) (hn : I64 n) (ho : o.ok) : l05_WireRanges_g n s o = some true := by
  unfold l05_WireRanges_g
  rw [aw05]
  by_cases h1 : 3000 < s.size
  · rw [decide_eq_true (by omega)]
    rfl
  · have hul := ub_le hn
    have hup : 1 ≤ (ub n).length := uv_pos _
    have hsz : (mkS (ub n)).size ≤ 1000000000000 := by rw [mkS_size]; omega
    have htp : 1 ≤ (tb s).length := by
      have := uv_pos s.size
      unfold tb
      rw [List.length_append]
      omega
    have htl : (tb s).length ≤ 4000 := by
      have := uv_le (n := s.size) (by omega)
      unfold tb
      rw [List.length_append, bl_length]
      omega
    have hts : (mkS (tb s)).size ≤ 1000000000000 := by rw [mkS_size]; omega
    have hm := ho.2.2.2
    rw [decide_eq_false (by omega), cond_false, wire_int hn, bind_some', letB_eq, show wire_NewReader_g (mkS (uv (zz n))) = wR (mkS (ub n)) 0 0 from rfl, wire_rInt hsz (by omega), bind_some', List.drop_zero, bl_ub]
    have etb : bl (mkS (tb s)) = tb s := bl_mkS fun _ => tb_lt
    have hrest : (Option.bind (wire_Text_g s) (fun tv => (letB (wire_NewReader_g tv) (fun nv1 => (Option.bind (wire_Reader__Text_g nv1 o.Most) (fun tv1 => (bif (decide (((s.size : Nat) : Int) ≤ o.Most)) then (bif (bEq tv1.1 s) then (bif ((wire_Reader__End_g tv1.2) == 0) then (Option.bind (some true) (fun av1 => some av1)) else some false) else some false) else (bif (bEq tv1.1 (⟨#[]⟩ : ByteArray)) then (bif ((wire_Reader__End_g tv1.2) == 4) then (Option.bind (some true) (fun av2 => some av2)) else some false) else some false))))))) : Option Bool) = some true := by
      rw [wire_text (by omega), bind_some', letB_eq, show wire_NewReader_g (mkS (tb s)) = wR (mkS (tb s)) 0 0 from rfl, wire_rText hts (by omega) hm, bind_some', List.drop_zero, etb]
      by_cases h2 : (s.size : Int) ≤ o.Most
      · have := txt_back (s := s) (by omega) h2 []
        rw [List.append_nil] at this
        rw [decide_eq_true h2, cond_true, this]
        dsimp only
        rw [mkS_bl, bEq_self, cond_true]
        unfold nat_
        rw [if_pos rfl, end_eq hts (by rw [mkS_size]; omega), if_pos rfl, mkS_size, if_neg (by omega)]
        rfl
      · have := txt_many (s := s) (most := o.Most) (by omega) (by omega) []
        rw [List.append_nil] at this
        rw [decide_eq_false h2, cond_false, this]
        dsimp only
        rw [show mkS [] = ⟨#[]⟩ from rfl, bEq_self, cond_true]
        unfold nat_
        rw [if_neg (by omega), end_eq hts (by omega), if_neg (by omega)]
        rfl
    rw [hrest]
    rw [letB_eq]
    by_cases h2 : o.Low ≤ n ∧ n ≤ o.High
    · have := sgn_back hn h2.1 h2.2 []
      rw [List.append_nil] at this
      rw [decide_eq_true h2.1, cond_true, decide_eq_true h2.2, cond_true, this]
      dsimp only
      unfold nat_
      rw [nb_t rfl, cond_false, if_pos rfl, end_eq hsz (by rw [mkS_size]; omega), if_pos rfl, mkS_size, if_neg (by omega)]
      rfl
    · have := sgn_range (low := o.Low) (high := o.High) hn (by omega) []
      rw [List.append_nil] at this
      have hc : (bif decide (o.Low ≤ n) then decide (n ≤ o.High) else false) = false := by
        by_cases h3 : o.Low ≤ n
        · rw [decide_eq_true h3, cond_true, decide_eq_false (by omega)]
        · rw [decide_eq_false h3]
          rfl
      rw [hc, cond_false, this]
      dsimp only
      unfold nat_
      rw [nb_t rfl, cond_false, if_neg (by omega), end_eq hsz (by omega), if_neg (by omega), left_eq hsz (by omega), mkS_size, bq_f (by omega)]
      rfl

end Go.Proofs.Ytlkmdaojdongjaa
