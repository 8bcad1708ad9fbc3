/- The abstract layer, part 28: a law whose first argument is a slice, with the form's own reach. -/
import Derived.Test.YtbgoflekklfdjaaAb27
import Derived.SizedLaws
namespace Go.Ab
open Go.RowKit Go.WideShapes Go.ChangeShapes

section
variable {H : Type} {enc : TypeId × Value → H} {P : Program} {w : World}

theorem law_innerZ {f : Nat} {fn : Func} {spec : ChangeSpec} {tb : TypeId} (ss : List Sh) (hl : laidOutB P = true) (hfit : fitAll P ss fn.params.toList = true)
    (hread : fn.params.toList.all (fun t => P.readableRec t && decide (t < P.types.size)) = true) (hvars : spec.vars = []) (hres : fn.resultTypes = #[tb]) (hb : P.underlying tb = some .bool)
    (hspec : ∀ ds : List (DataW H), ds.length = fn.params.toList.length → (spec.fn H ds).results = [.lit (.bool true)] ∧ (spec.fn H ds).args = ds ∧ (spec.fn H ds).vars = [])
    {t0 e0 : TypeId} {ts0 : List TypeId} (hp0 : fn.params.toList = t0 :: ts0) (he0 : P.underlying t0 = some (.slice e0))
    (hold : ∀ as, OfAll ss as → (∀ xs rest, as = .sl xs :: rest → xs.length * P.bytesOf e0 ≤ reachBytes) → Holds P f as [] (.sc (.bool true)) [])
    {base : Nat} {args : Array Value} {ds gs : List (DataW H)} {before : List MemPlace} (hval : ∀ (j : Nat) t v, fn.params[j]? = some t → args[j]? = some v → Value.okWide P w .any base t v)
    (hW : DataW.Whole enc P fn.params.toList spec.vars false w args.toList ds gs before)
    (hz : (DataW.weightsEach P (fn.params.toList ++ spec.plain.varTypes P) (ds ++ gs)).all (· ≤ reachBytes) = true) :
    Calls P f args w fun e w' => ∃ v, e = .returned v ∧ spec.post enc P fn false true false false w args v w' := by
  have hW' := hW
  obtain ⟨p, q, hA, hV, hbf, hfz, hnd⟩ := hW
  have hV0 := hV
  rw [hvars] at hV0
  obtain ⟨rfl, rfl⟩ := trodVars_none hV0
  obtain ⟨as, g1, g2, g3, g4⟩ := openArgs ss _ _ ds p hfit (fun j t v h1 h2 => hval j t v (by simpa using h1) (by simpa using h2)) hA
  have hlt : ∀ x ∈ before, x.block < w.heap.size := fun x hx => hW'.lt x hx
  rw [List.append_nil] at hbf
  subst hbf
  have hsz : ∀ xs rest, as = .sl xs :: rest → xs.length * P.bytesOf e0 ≤ reachBytes := by
    intro xs rest has
    subst has
    rw [hp0] at hA hz
    have hlen : args.toList.length = rest.length + 1 := by simpa using g2.symm
    match hv : args.toList, ds, hA with
    | v0 :: vs0, d0 :: ds0, hA' =>
      obtain ⟨p1, q1, ⟨fuel, htr⟩, _, _⟩ := hA'
      have hr := g4 0 (.sl xs) v0 rfl (by rw [hv]; rfl)
      have hslice : ∃ ad cap, v0 = .slice ad xs.length cap := by
        cases hr with
        | sl0 => exact ⟨_, _, rfl⟩
        | sl f he hR hcap hl hc hrr => exact ⟨_, _, rfl⟩
      obtain ⟨ad, cap, rfl⟩ := hslice
      rcases DataW.trod_slice he0 htr with ⟨h1, _⟩ | ⟨a1, len, cap1, elems, rst, nn, _, h1, h2, _, _, _, h3, _⟩
      · have : xs.length = 0 := by
          have e1 : (Value.slice ad xs.length cap).cells.toList = [.slice ad xs.length cap] := rfl
          rw [e1] at h1
          injection h1 with h1 _
          injection h1
        rw [this, Nat.zero_mul]
        exact Nat.zero_le _
      · have e1 : (Value.slice ad xs.length cap).cells.toList = [.slice ad xs.length cap] := rfl
        rw [e1] at h1
        injection h1 with h1 _
        injection h1 with _ h1 _
        have hd0 : d0 = .slice (elems.map (·.1)) (rst.map (·.1)) := (Prod.mk.inj h2).1
        subst hd0
        simp only [List.cons_append, DataW.weightsEach, DataW.weights, he0, List.all_append, List.all_cons, Bool.and_eq_true, decide_eq_true_eq] at hz
        have hw := hz.1
        rw [h1, ← h3]
        refine Nat.le_trans (Nat.mul_le_mul_right _ ?_) hw
        simp
  have hcall := hold as g1 hsz w args Ph.no (inB before) (by simpa using g2) (fun i c v h1 h2 => g4 i c v h1 (by simpa using h2))
    ⟨fun b k h => by simp [lk] at h, fun b b' k k' h h' h1 => by simp [lk] at h1, fun b k h h1 => by simp [lk] at h1⟩ (fun b x h => by simp [Ph.no] at h)
    (by rintro n ⟨x, hx, rfl⟩; exact hlt x hx)
  refine hcall.mono ?_
  rintro e w' ⟨v, φ', R', rfl, hr, -, -, -, -, -, -, hext⟩
  cases hr
  have hbelow : Below w.heap.size w w' := hext.below (by rintro i ⟨b, k, h, h1, -⟩; simp [lk] at h1)
  obtain ⟨s1, s2, s3⟩ := hspec (ds ++ []) (by rw [List.append_nil]; exact g3)
  refine ⟨_, rfl, post_below (pa := before) (pv := []) hW' ?_ ?_ ?_ (by simp) hbelow ?_⟩
  · intro b sp hd
    rw [s1, hres]
    exact trodAll_cons_mk (shut_bool hb _) trodAll_mk0
  · intro sp hsp
    rw [s2, List.append_nil]
    exact trodAll_stays hl _ _ _ _ hread hA (fun x hx => hbelow.same (hlt x hx)) hsp
  · intro sp hsp
    rw [s3, hvars]
    rfl
  · exact ok_one hres rfl (okWide_bool_mk hb _)


end
end Go.Ab
