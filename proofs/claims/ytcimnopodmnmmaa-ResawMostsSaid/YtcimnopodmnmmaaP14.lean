/- P14: what functions of the program compute (written by mod.py). -/
import Derived.Test.YtcimnopodmnmmaaP13
import Derived.KernelRfl
namespace Go.Proofs.Ytcimnopodmnmmaa
open Go Go.Ab
set_option linter.unusedSimpArgs false
set_option linter.unusedVariables false
set_option linter.unusedSectionVars false
set_option maxRecDepth 20000
set_option maxHeartbeats 1000000

/-! the reference's Most -/
section
variable {k : Int} {sizes prices : List Int} {M : Nat} (hk : 0 ≤ k ∧ k ≤ 20) (hM : M ≤ 10000) (hl : prices.length = sizes.length) (hs : sizes.length ≤ 32) (hR : Rng (sizes.zip prices))
include hk hM hl hs hR
theorem best_lim {n f r : Nat} {known : List Int} (hn : n ≤ 8) (hf : f ≤ sizes.length) (hr : r < M + 1) (hK : Kn k (sizes.zip prices) M known) : ∃ known', r27_best_g (n : Int) (f : Int) (r : Int) sizes prices known k ((M + 1 : Nat) : Int) = some (bst k n ((sizes.zip prices).drop f) (r : Int), known') ∧ Kn k (sizes.zip prices) M known' ∧ Nat.beq known'.length known.length = true := by
  obtain ⟨known', h, hK'⟩ := best_spec hk hM hl hs hR _ n f r known (Nat.lt_succ_self _) hn hf hr hK
  exact ⟨known', r27_best_g_of _ _ _ _ _ _ _ _ h, hK', by rw [hK'.len, hK.len]; simp⟩
theorem cnt_loop27 {t : Int} (ht : t + k = (M : Int)) (ht2 : 0 ≤ t) : ∀ (d : Nat) (known : List Int), d ≤ 8 → Kn k (sizes.zip prices) M known → ∃ known', loopO (fun q : Int × Int × Int × List Int => r27_Most_s3 t k sizes prices q.1 q.2.1 q.2.2.1 q.2.2.2) (((vcnt (fun n => bst k n (sizes.zip prices) (M : Int)) (9 - d) : Nat) : Int), bst k (vcnt (fun n => bst k n (sizes.zip prices) (M : Int)) (9 - d)) (sizes.zip prices) (M : Int), ((9 - d : Nat) : Int), known) = some (known', ((nBest k (sizes.zip prices) M : Nat) : Int), bst k (nBest k (sizes.zip prices) M) (sizes.zip prices) (M : Int)) ∧ Kn k (sizes.zip prices) M known' := by
  intro d
  induction d with
  | zero =>
    intro known _ hK
    refine ⟨known, loopO_done ?_, hK⟩
    show r27_Most_s3 t k sizes prices _ _ ((9 : Nat) : Int) known = _
    unfold r27_Most_s3
    rw [decide_eq_false (by omega), cond_false]
    rfl
  | succ d ih =>
    intro known hd hK
    obtain ⟨k1, h1, hK1, hb1⟩ := best_lim hk hM hl hs hR (n := 9 - (d + 1)) (f := 0) (r := M) (by omega) (by omega) (by omega) hK
    obtain ⟨k2, h2, hK2⟩ := ih k1 (by omega) hK1
    refine ⟨k2, ?_, hK2⟩
    rw [← h2]
    refine loopO_next ?_
    show r27_Most_s3 t k sizes prices _ _ ((9 - (d + 1) : Nat) : Int) known = _
    unfold r27_Most_s3
    rw [List.drop_zero] at h1
    rw [show ((0 : Nat) : Int) = 0 from rfl] at h1
    rw [decide_eq_true (by omega), cond_true, W64_eq (n := t + k) (by omega) (by omega), ht, W64_succ (by omega), h1, bind_some']
    dsimp only
    rw [hb1, cond_true, W64_succ (by omega), show 9 - d = (9 - (d + 1)) + 1 by omega, vcnt_succ]
    by_cases h : bst k (vcnt (fun n => bst k n (sizes.zip prices) (M : Int)) (9 - (d + 1))) (sizes.zip prices) (M : Int) < bst k (9 - (d + 1)) (sizes.zip prices) (M : Int)
    · rw [decide_eq_true h, cond_true, if_pos h]
    · rw [decide_eq_false h, cond_false, if_neg h]
theorem back_ref {t : Int} (ht : t + k = (M : Int)) (ht2 : 0 ≤ t) : ∀ (f n i : Nat) (room : Int) (out : List Int) (known : List Int), n + (sizes.length - i) < f → n ≤ 8 → out.length + n ≤ 8 → 0 ≤ room → room ≤ (M : Int) → 0 ≤ bst k n ((sizes.zip prices).drop i) room → Kn k (sizes.zip prices) M known →
    loopO (fun q : Int × List Int × Int × Int × List Int => r27_Most_s4 t k sizes prices q.1 q.2.1 q.2.2.1 q.2.2.2.1 q.2.2.2.2) ((n : Int), out, room, (i : Int), known) = some (out ++ (pick k f ((sizes.zip prices).drop i) n room i).map fun a : Nat => (a : Int)) := by
  intro f
  induction f with
  | zero => intro n i room out known h; omega
  | succ f ih =>
    intro n i room out known hf hn ho h0 h1 hb hK
    cases n with
    | zero =>
      have hp : pick k (f + 1) ((sizes.zip prices).drop i) 0 room i = [] := by
        cases (sizes.zip prices).drop i <;> rfl
      rw [hp]
      refine loopO_done ?_
      show r27_Most_s4 t k sizes prices ((0 : Nat) : Int) out room (i : Int) known = _
      unfold r27_Most_s4
      rw [decide_eq_false (by omega), cond_false]
      simp
    | succ n =>
      rcases Nat.lt_or_ge i sizes.length with hi | hi
      · have hz := zip_at hk hM hl hs hR hi
        have hq := hR (sizes[i], prices[i]) (List.mem_of_mem_drop (i := i) (by rw [hz]; exact List.mem_cons_self ..))
        dsimp only at hq
        have hpk : pick k (f + 1) ((sizes.zip prices).drop i) (n + 1) room i = if 0 ≤ room - sizes[i] - k ∧ 0 ≤ bst k n ((sizes.zip prices).drop i) (room - sizes[i] - k) ∧ bst k n ((sizes.zip prices).drop i) (room - sizes[i] - k) + prices[i] = bst k (n + 1) ((sizes.zip prices).drop i) room then i :: pick k f ((sizes.zip prices).drop i) n (room - sizes[i] - k) i else pick k f ((sizes.zip prices).drop (i + 1)) (n + 1) room (i + 1) := by
          rw [hz]
          rfl
        have hc := bst_cons k n (sizes[i], prices[i]) ((sizes.zip prices).drop (i + 1)) room
        rw [← hz] at hc
        dsimp only at hc
        have hbd := bst_bd k n ((sizes.zip prices).drop i) (room - sizes[i] - k) (fun q hq => hR q (List.mem_of_mem_drop hq))
        have hskip : ¬ (0 ≤ room - sizes[i] - k ∧ 0 ≤ bst k n ((sizes.zip prices).drop i) (room - sizes[i] - k) ∧ bst k n ((sizes.zip prices).drop i) (room - sizes[i] - k) + prices[i] = bst k (n + 1) ((sizes.zip prices).drop i) room) → ∀ k3, Kn k (sizes.zip prices) M k3 → r27_Most_s4 t k sizes prices ((n + 1 : Nat) : Int) out room (i : Int) known = some (.inl (((n + 1 : Nat) : Int), out, room, ((i + 1 : Nat) : Int), k3)) → loopO (fun q : Int × List Int × Int × Int × List Int => r27_Most_s4 t k sizes prices q.1 q.2.1 q.2.2.1 q.2.2.2.1 q.2.2.2.2) (((n + 1 : Nat) : Int), out, room, (i : Int), known) = some (out ++ (pick k (f + 1) ((sizes.zip prices).drop i) (n + 1) room i).map fun a : Nat => (a : Int)) := by
          intro hn' k3 hk3 hstep
          have he : bst k (n + 1) ((sizes.zip prices).drop i) room = bst k (n + 1) ((sizes.zip prices).drop (i + 1)) room := by
            rw [hc]
            by_cases hh : 0 ≤ room - sizes[i] - k ∧ 0 ≤ bst k n ((sizes.zip prices).drop i) (room - sizes[i] - k)
            · rw [if_pos hh] at hc ⊢
              have : ¬ bst k n ((sizes.zip prices).drop i) (room - sizes[i] - k) + prices[i] = bst k (n + 1) ((sizes.zip prices).drop i) room := fun h' => hn' ⟨hh.1, hh.2, h'⟩
              omega
            · rw [if_neg hh]
          rw [hpk, if_neg hn', loopO_next hstep]
          exact ih (n + 1) (i + 1) room out k3 (by omega) hn ho h0 h1 (by rw [← he]; exact hb) hk3
        have hs4 : r27_Most_s4 t k sizes prices ((n + 1 : Nat) : Int) out room (i : Int) known = r27_Most_s4 t k sizes prices ((n + 1 : Nat) : Int) out room (i : Int) known := rfl
        conv at hs4 => rhs; unfold r27_Most_s4
        rw [decide_eq_true (by omega), cond_true, getI_at hi, bind_some', W64_eq (n := t + k) (by omega) (by omega), ht, W64_succ (k := M) (by omega), W64_eq (n := sizes[i] + k) (by omega) (by omega), W64_eq (n := ((n + 1 : Nat) : Int) - 1) (by omega) (by omega), show ((n + 1 : Nat) : Int) - 1 = (n : Int) by omega, W64_succ (k := i) (by omega)] at hs4
        by_cases e0 : 0 ≤ room - sizes[i] - k
        · rw [decide_eq_true (show sizes[i] + k ≤ room by omega), cond_true, bind_some', W64_eq (n := room - sizes[i]) (by omega) (by omega), W64_eq (n := room - sizes[i] - k) (by omega) (by omega)] at hs4
          obtain ⟨k1, g1, hK1, hb1⟩ := best_lim hk hM hl hs hR (n := n) (f := i) (r := (room - sizes[i] - k).toNat) (by omega) (by omega) (by omega) hK
          rw [show (((room - sizes[i] - k).toNat : Nat) : Int) = room - sizes[i] - k by omega] at g1
          rw [g1, bind_some'] at hs4
          dsimp only at hs4
          rw [hb1, cond_true, bind_some'] at hs4
          dsimp only at hs4
          by_cases e1 : 0 ≤ bst k n ((sizes.zip prices).drop i) (room - sizes[i] - k)
          · obtain ⟨k2, g2, hK2, hb2⟩ := best_lim hk hM hl hs hR (n := n + 1) (f := i) (r := room.toNat) (by omega) (by omega) (by omega) hK1
            rw [show ((room.toNat : Nat) : Int) = room by omega] at g2
            rw [decide_eq_true e1, cond_true, getI_at (show i < prices.length by omega), bind_some', g2, bind_some'] at hs4
            dsimp only at hs4
            rw [hb2, cond_true, bind_some', W64_eq (by omega) (by omega), Int.add_comm prices[i]] at hs4
            dsimp only at hs4
            by_cases e2 : bst k n ((sizes.zip prices).drop i) (room - sizes[i] - k) + prices[i] = bst k (n + 1) ((sizes.zip prices).drop i) room
            · rw [show (bst k n ((sizes.zip prices).drop i) (room - sizes[i] - k) + prices[i] == bst k (n + 1) ((sizes.zip prices).drop i) room) = true by simpa using e2, cond_true, appO_eq (by simp; omega) (by simp; omega), bind_some', bind_some', W64_eq (n := room - sizes[i]) (by omega) (by omega), W64_eq (n := room - sizes[i] - k) (by omega) (by omega)] at hs4
              rw [hpk, if_pos ⟨e0, e1, e2⟩, loopO_next hs4]
              have := ih n i (room - sizes[i] - k) (out ++ [(i : Int)]) k2 (by omega) (by omega) (by simp; omega) e0 (by omega) e1 hK2
              rw [this]
              simp
            · rw [show (bst k n ((sizes.zip prices).drop i) (room - sizes[i] - k) + prices[i] == bst k (n + 1) ((sizes.zip prices).drop i) room) = false by simpa using e2, cond_false] at hs4
              exact hskip (fun h => e2 h.2.2) k2 hK2 hs4
          · rw [decide_eq_false e1, cond_false, bind_some'] at hs4
            exact hskip (fun h => e1 h.2.1) k1 hK1 hs4
        · rw [decide_eq_false (show ¬ sizes[i] + k ≤ room by omega), cond_false, bind_some'] at hs4
          dsimp only at hs4
          rw [show decide ((0 : Int) ≤ -1) = false from rfl, cond_false, bind_some'] at hs4
          exact hskip (fun h => e0 h.1) known hK hs4
      · rw [List.drop_eq_nil_of_le (by rw [List.length_zip]; omega), bst_nil] at hb
        omega
end
theorem fill_loop (n : Nat) (hn : n ≤ 1000000000) : loopO (fun q : Int × List Int => r27_Most_s2 q.1 q.2) (0, List.replicate n 0) = some (List.replicate n (-2)) := by
  have := loopO_upto (step := fun q : Int × List Int => r27_Most_s2 q.1 q.2) (fun j => ((j : Int), List.replicate j (-2) ++ List.replicate (n - j) 0)) n (y := List.replicate n (-2)) (fun j hj => ?_) ?_
  · simpa using this
  · show r27_Most_s2 (j : Int) (List.replicate j (-2) ++ List.replicate (n - j) 0) = _
    have hlen : (List.replicate j (-2 : Int) ++ List.replicate (n - j) 0).length = n := by simp; omega
    unfold r27_Most_s2
    rw [hlen, lt_nat hj, cond_true, getI_at (by rw [hlen]; exact hj), bind_some', W64_succ (by omega)]
    unfold setI
    rw [Int.toNat_natCast, List.set_append_right _ _ (by simp), List.length_replicate, Nat.sub_self, show n - j = (n - (j + 1)) + 1 by omega, List.replicate_succ, List.set_cons_zero, List.replicate_succ' (n := j)]
    simp
  · show r27_Most_s2 (n : Int) (List.replicate n (-2) ++ List.replicate (n - n) 0) = _
    unfold r27_Most_s2
    rw [Nat.sub_self, List.replicate_zero, List.append_nil, List.length_replicate, nlt_nat]
    rfl
theorem kn0 (k : Int) (L : List (Int × Int)) (M : Nat) : Kn k L M (List.replicate (9 * L.length * (M + 1)) (-2)) := by
  constructor
  · simp
  · intro n f r hn hf hr v hv
    rw [List.getElem?_replicate] at hv
    split at hv
    · cases hv; exact .inl rfl
    · cases hv
theorem most_eq2 (t k : Int) (sizes prices : List Int) : r27_Most_g t k sizes prices = some (mst t k sizes prices) := by
  unfold r27_Most_g mst
  rw [show r27_cut_g t k = resaw_isSaw_g t k from rfl]
  cases hsw : resaw_isSaw_g t k with
  | false => rfl
  | true =>
    have hS := saw_ok hsw
    rw [Bool.not_true, cond_false, cond_false]
    cases h0 : (((sizes.length : Nat) : Int) == 0) with
    | true => rfl
    | false =>
      rw [cond_false, cond_false]
      by_cases h32 : 32 < ((sizes.length : Nat) : Int)
      · rw [decide_eq_true h32]
        rfl
      · rw [decide_eq_false h32, cond_false, cond_false]
        cases hp : (((prices.length : Nat) : Int) != ((sizes.length : Nat) : Int)) with
        | true => rfl
        | false =>
          have hl : prices.length = sizes.length := by
            simp at hp
            omega
          rw [cond_false, cond_false, chk_loop2 hl (by omega), bind_some']
          cases ha : (List.range sizes.length).all (okP sizes prices) with
          | false => rfl
          | true =>
            have hR := rng_of hl ha
            rw [cond_true, Bool.not_true, cond_false]
            have hM : (t + k).toNat ≤ 10000 := by omega
            have hk : 0 ≤ k ∧ k ≤ 20 := hS.2.2
            have hT : t + k = (((t + k).toNat : Nat) : Int) := by omega
            have hM2 : (t + k).toNat ≤ 620 := by omega
            generalize (t + k).toNat = M at *
            obtain ⟨n1, n2, n3⟩ := nBest_ok (k := k) (sizes.zip prices) M
            have hzl : (sizes.zip prices).length = sizes.length := by rw [List.length_zip]; omega
            have hmul : 9 * sizes.length * (M + 1) ≤ 288 * 621 := Nat.mul_le_mul (by omega) (by omega)
            have hK0 := kn0 k (sizes.zip prices) M
            rw [hzl] at hK0
            obtain ⟨kn1, g1, hK1⟩ := cnt_loop27 hk hM hl (by omega) hR hT (by omega) 8 _ (by omega) hK0
            have hv1 : vcnt (fun n => bst k n (sizes.zip prices) (M : Int)) (9 - 8) = 0 := by
              show vcnt _ (0 + 1) = 0
              rw [vcnt_succ]
              split <;> rfl
            rw [hv1, bst_zero] at g1
            have hb := back_ref hk hM hl (by omega) hR hT (by omega) (nBest k (sizes.zip prices) M + (sizes.zip prices).length + 1) (nBest k (sizes.zip prices) M) 0 (M : Int) [] kn1 (by rw [List.length_zip]; omega) n1 (by simpa using n1) (by omega) (by omega) n2 hK1
            show Option.bind (mkO 8 0 (W64 (W64 (9 * ((sizes.length : Nat) : Int)) * W64 (W64 (t + k) + 1)))) _ = _
            rw [W64_eq (n := t + k) (by omega) (by omega), hT, W64_succ (by omega), W64_eq (n := 9 * ((sizes.length : Nat) : Int)) (by omega) (by omega), show 9 * ((sizes.length : Nat) : Int) * ((M + 1 : Nat) : Int) = ((9 * sizes.length * (M + 1) : Nat) : Int) by push_cast; rfl, W64_eq (by omega) (by omega), mkO_eq (by omega) (by omega) (by omega), bind_some', Int.toNat_natCast, fill_loop _ (by omega), bind_some']
            have g1' : loopO (fun q : Int × Int × Int × List Int => r27_Most_s3 t k sizes prices q.1 q.2.1 q.2.2.1 q.2.2.2) (0, 0, 1, List.replicate (9 * sizes.length * (M + 1)) (-2)) = some (kn1, ((nBest k (sizes.zip prices) M : Nat) : Int), bst k (nBest k (sizes.zip prices) M) (sizes.zip prices) (M : Int)) := g1
            rw [g1', bind_some']
            dsimp only
            have hb' := hb
            rw [show ((0 : Nat) : Int) = 0 from rfl] at hb'
            rw [hb', bind_some', List.drop_zero]
            rfl
theorem sameInts_self {a : List Int} (hl : a.length ≤ 1000000) : r27_SameInts_g a a = some true := by
  unfold r27_SameInts_g
  rw [show (((a.length : Nat) : Int) != ((a.length : Nat) : Int)) = false by simp, cond_false]
  rw [show (0 : Int) = ((0 : Nat) : Int) from rfl, loopO_upto (step := fun q : Int => r27_SameInts_s1 a a q) (fun j => (j : Int)) a.length (y := .inr ()) (fun j hj => by
    show r27_SameInts_s1 a a j = _
    unfold r27_SameInts_s1
    rw [lt_nat hj, cond_true, getI_at hj, bind_some', bind_some', show (a[j] != a[j]) = false by simp, cond_false, W64_succ (by omega)]) (by
    show r27_SameInts_s1 a a _ = _
    unfold r27_SameInts_s1
    rw [nlt_nat]
    rfl)]
  rfl
theorem resawMosts_true (x : Tsawmilllaw27_Parts) : l27_ResawMosts_g x = some true := by
  unfold l27_ResawMosts_g
  rw [aw27]
  cases hlt : l27_light_g x with
  | false => rfl
  | true =>
    rw [Bool.not_true, cond_false, most_eq1, bind_some', most_eq2, bind_some']
    have hlen : (mst x.Thick x.Kerf x.Sizes x.Prices).1.length ≤ 1000000 := by
      rcases mst_cases x.Thick x.Kerf x.Sizes x.Prices with ⟨e, he, hm⟩ | ⟨hsw, h0, h32, hp, hR, hm⟩
      · rw [hm]; simp
      · rw [hm]
        obtain ⟨n1, n2, n3⟩ := nBest_ok (k := x.Kerf) (x.Sizes.zip x.Prices) (x.Thick + x.Kerf).toNat
        have := (pick_ok (L := x.Sizes.zip x.Prices) (k := x.Kerf) (nBest x.Kerf (x.Sizes.zip x.Prices) (x.Thick + x.Kerf).toNat + (x.Sizes.zip x.Prices).length + 1) (nBest x.Kerf (x.Sizes.zip x.Prices) (x.Thick + x.Kerf).toNat) (((x.Thick + x.Kerf).toNat : Nat) : Int) 0 (by omega) (by rw [List.drop_zero]; exact n2) (by omega)).1
        rw [List.drop_zero] at this
        show (listBest _ _ _).length ≤ _
        unfold listBest
        rw [List.length_map, this]
        omega
    rw [sameInts_self hlen, bind_some']
    simp

end Go.Proofs.Ytcimnopodmnmmaa
