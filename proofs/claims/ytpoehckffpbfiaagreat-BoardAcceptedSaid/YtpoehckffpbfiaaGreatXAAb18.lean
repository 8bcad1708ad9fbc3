/- The abstract layer, part 18: a law's statement from what its function does. -/
import Derived.Test.YtpoehckffpbfiaaGreatXAAb17
namespace Go.Ab
open Go.RowKit Go.WideShapes Go.ChangeShapes
section
variable {H : Type} {enc : TypeId × Value → H} {P : Program} {w : World}
theorem openArg {s : Sh} {t : TypeId} {v : Value} {d : DataW H} {ps : List MemPlace} {base : Nat} (hf : fitsB P s t = true) (hok : Value.okWide P w .any base t v)
  (h : DataW.Trod enc P w 0 (fun _ => true) true t v d ps) : ∃ a, Of s a ∧ Rel w (inB ps) Ph.no a v := by
 obtain ⟨n, hn⟩ := h
 obtain ⟨acs, h1, h2, h3⟩ := openCells s t n _ _ hf hn
 have one : v.cells = #[v] → acs.length = 1 → ∃ a, acs = [a] ∧ Rel w (inB ps) Ph.no a v := by
  intro hc hl
  match acs, hl with
  | [a], _ => exact ⟨a, rfl, h3 0 a v rfl (by simp [hc])⟩
 cases s with
 | struct fs =>
  rw [fitsB] at hf
  split at hf
  ·rename_i gs ht
   simp only [Value.okWide, ht] at hok
   obtain ⟨cs, rfl, _⟩ := hok
   refine ⟨.agg acs, ⟨acs, rfl, h1⟩, .agg (by simpa [Value.cells] using h2) (fun i c v hc hv => h3 i c v hc (by simpa [Value.cells] using hv))⟩
  ·rename_i m e ht
   simp only [Value.okWide, ht] at hok
   obtain ⟨cs, rfl, _⟩ := hok
   refine ⟨.agg acs, ⟨acs, rfl, h1⟩, .agg (by simpa [Value.cells] using h2) (fun i c v hc hv => h3 i c v hc (by simpa [Value.cells] using hv))⟩
  ·cases hf
 | int k =>
  rw [fitsB] at hf
  split at hf
  ·rename_i k' ht
   have hc : v.cells = #[v] := by cases v <;> simp_all [Value.okWide, Cell.okWide, Cell.ok, Value.cells]
   obtain ⟨a, rfl, hr⟩ := one hc (by simpa [Sh.size] using CellsOf.length _ _ h1)
   exact ⟨a, ⟨[a], rfl, h1⟩, hr⟩
  ·cases hf
 | bool =>
  rw [fitsB] at hf
  split at hf
  ·rename_i ht
   have hc : v.cells = #[v] := by cases v <;> simp_all [Value.okWide, Cell.okWide, Cell.ok, Value.cells]
   obtain ⟨a, rfl, hr⟩ := one hc (by simpa [Sh.size] using CellsOf.length _ _ h1)
   exact ⟨a, ⟨[a], rfl, h1⟩, hr⟩
  ·cases hf
 | str =>
  rw [fitsB] at hf
  split at hf
  ·rename_i ht
   have hc : v.cells = #[v] := by cases v <;> simp_all [Value.okWide, Cell.okWide, Cell.ok, Value.cells]
   obtain ⟨a, rfl, hr⟩ := one hc (by simpa [Sh.size] using CellsOf.length _ _ h1)
   exact ⟨a, ⟨[a], rfl, h1⟩, hr⟩
  ·cases hf
 | slice e =>
  rw [fitsB] at hf
  split at hf
  ·rename_i u ht
   have hc : v.cells = #[v] := by cases v <;> simp_all [Value.okWide, Cell.okWide, Cell.ok, Value.cells]
   obtain ⟨a, rfl, hr⟩ := one hc (by simpa [Sh.size] using CellsOf.length _ _ h1)
   exact ⟨a, ⟨[a], rfl, h1⟩, hr⟩
  ·cases hf
def OfAll : List Sh → List AV → Prop
 | [], [] => True
 | s :: ss, a :: as => Of s a ∧ OfAll ss as
 | _, _ => False
def fitAll (P : Program) : List Sh → List TypeId → Bool
 | [], [] => true
 | s :: ss, t :: ts => fitsB P s t && fitAll P ss ts
 | _, _ => false
theorem openArgs {base : Nat} : ∀ (ss : List Sh) (ts : List TypeId) (vs : List Value) (ds : List (DataW H)) (ps : List MemPlace), fitAll P ss ts = true →
  (∀ (j : Nat) t v, ts[j]? = some t → vs[j]? = some v → Value.okWide P w .any base t v) → DataW.TrodAll enc P w 0 (fun _ => true) true ts vs ds ps →
  ∃ as, OfAll ss as ∧ as.length = vs.length ∧ ds.length = ts.length ∧ ∀ (i : Nat) (a : AV) (v : Value), as[i]? = some a → vs[i]? = some v → Rel w (inB ps) Ph.no a v
 | [], [], vs, ds, ps, _, _, h => by
  obtain ⟨rfl, rfl, rfl⟩ := trodAll_nil h
  exact ⟨[], trivial, rfl, rfl, by intro i a v h; simp at h⟩
 | s :: ss, t :: ts, vs, ds, ps, hf, hok, h => by
  obtain ⟨v, vs, d, ds, p, q, rfl, rfl, rfl, h0, hr⟩ := trodAll_cons h
  rw [fitAll, Bool.and_eq_true] at hf
  obtain ⟨a, ha, hra⟩ := openArg hf.1 (hok 0 t v rfl rfl) h0
  obtain ⟨as, g1, g2, g3, g4⟩ := openArgs ss ts vs ds q hf.2 (fun j t v h1 h2 => hok (j + 1) t v (by simpa using h1) (by simpa using h2)) hr
  refine ⟨a :: as, ⟨ha, g1⟩, by simp [g2], by simp [g3], ?_⟩
  intro i c u h1 h2
  cases i with
  | zero =>
   simp at h1 h2
   subst h1; subst h2
   exact hra.more fun n ⟨p', hp, hn⟩ => ⟨p', List.mem_append_left _ hp, hn⟩
  | succ i =>
   exact (g4 i c u (by simpa using h1) (by simpa using h2)).more fun n ⟨p', hp, hn⟩ => ⟨p', List.mem_append_right _ hp, hn⟩
 | [], _ :: _, _, _, _, hf, _, _ => by simp [fitAll] at hf
 | _ :: _, [], _, _, _, hf, _, _ => by simp [fitAll] at hf
theorem trodAll_stays (hl : laidOutB P = true) {W W' : World} {sp : Nat → Bool} : ∀ (ts : List TypeId) (vs : List Value) (ds : List (DataW H)) (ps : List MemPlace), ts.all (fun t => P.readableRec t && decide (t < P.types.size)) = true →
  DataW.TrodAll enc P W 0 (fun _ => true) true ts vs ds ps → (∀ p ∈ ps, W.sameAt W' p) → (∀ p ∈ ps, sp p.block = true) → DataW.TrodAll enc P W' 0 sp true ts vs ds ps
 | [], vs, ds, ps, _, h, _, _ => by
  obtain ⟨rfl, rfl, rfl⟩ := trodAll_nil h
  exact trodAll_mk0
 | t :: ts, vs, ds, ps, hr, h, hs, hsp => by
  obtain ⟨v, vs, d, ds, p, q, rfl, rfl, rfl, h0, h1⟩ := trodAll_cons h
  rw [List.all_cons, Bool.and_eq_true, Bool.and_eq_true] at hr
  exact trodAll_cons_mk (WideElems.Trod_stays hl hr.1.1 (of_decide_eq_true hr.1.2) h0 (fun p hp => hs p (List.mem_append_left _ hp)) (fun p hp => hsp p (List.mem_append_left _ hp)))
   (trodAll_stays hl ts vs ds q hr.2 h1 (fun p hp => hs p (List.mem_append_right _ hp)) (fun p hp => hsp p (List.mem_append_right _ hp)))
theorem post_below {f : Func} {s : ChangeSpec} {W W' : World} {args : Array Value} {v : Value} {ds gs : List (DataW H)} {before pa pv : List MemPlace}
  (hW : DataW.Whole enc P f.params.toList s.vars false W args.toList ds gs before)
  (hres : ∀ (b : Nat) (sp : Nat → Bool) (hd : Bool), DataW.TrodAll enc P W' b sp hd f.resultTypes.toList (v.resultList f.resultTypes.size) (s.fn H (ds ++ gs)).results [])
  (hargs : ∀ sp : Nat → Bool, (∀ p ∈ before, sp p.block = true) → DataW.TrodAll enc P W' 0 sp true f.params.toList args.toList (s.fn H (ds ++ gs)).args pa)
  (hvars : ∀ sp : Nat → Bool, (∀ p ∈ before, sp p.block = true) → DataW.TrodVars enc P W' sp s.vars (s.fn H (ds ++ gs)).vars pv)
  (hps : before = pa ++ pv) (hb : Below W.heap.size W W')
  (hok : ∀ (j : Nat) (t : TypeId) (r : Value), f.resultTypes[j]? = some t → (v.resultList f.resultTypes.size)[j]? = some r → Value.okWide P W' .any 0 t r) :
  s.post enc P f false true false false W args v W' := by
 have hlt : ∀ p ∈ before, p.block < W.heap.size := fun p hp => hW.lt p hp
 have hold : ∀ p ∈ before, (fun b => decide (b < W.heap.size)) p.block = true := fun p hp => by simpa using hlt p hp
 refine ⟨ds, gs, before, [], pa, pv, hW, hres _ _ _, hargs _ hold, hvars _ hold, World.keptBut_mono (fun p hp => ⟨hp, ?_⟩) (hb.frame (· ∈ before)), fun h => by cases h⟩
 rw [hps, List.mem_append] at hp
 exact Or.inr hp
theorem law_inner {f : Nat} {fn : Func} {spec : ChangeSpec} {tb : TypeId} (ss : List Sh) (hl : laidOutB P = true) (hfit : fitAll P ss fn.params.toList = true)
  (hread : fn.params.toList.all (fun t => P.readableRec t && decide (t < P.types.size)) = true) (hvars : spec.vars = []) (hres : fn.resultTypes = #[tb]) (hb : P.underlying tb = some .bool)
  (hspec : ∀ ds : List (DataW H), ds.length = fn.params.toList.length → (spec.fn H ds).results = [.lit (.bool true)] ∧ (spec.fn H ds).args = ds ∧ (spec.fn H ds).vars = [])
  (hold : ∀ as, OfAll ss as → Holds P f as [] (.sc (.bool true)) [])
  {base : Nat} {args : Array Value} {ds gs : List (DataW H)} {before : List MemPlace} (hval : ∀ (j : Nat) t v, fn.params[j]? = some t → args[j]? = some v → Value.okWide P w .any base t v)
  (hW : DataW.Whole enc P fn.params.toList spec.vars false w args.toList ds gs before) :
  Calls P f args w fun e w' => ∃ v, e = .returned v ∧ spec.post enc P fn false true false false w args v w' := by
 have hW' := hW
 obtain ⟨p, q, hA, hV, hbf, hfz, hnd⟩ := hW
 have hV0 := hV
 rw [hvars] at hV0
 obtain ⟨rfl, rfl⟩ := trodVars_none hV0
 obtain ⟨as, g1, g2, g3, g4⟩ := openArgs ss _ _ ds p hfit (fun j t v h1 h2 => hval j t v (by simpa using h1) (by simpa using h2)) hA
 have hlt : ∀ x ∈ before, x.block < w.heap.size := fun x hx => hW'.lt x hx
 rw [List.append_nil] at hbf
 subst hbf
 have hcall := hold as g1 w args Ph.no (inB before) (by simpa using g2) (fun i c v h1 h2 => g4 i c v h1 (by simpa using h2))
  ⟨fun b k h => by simp [lk] at h, fun b b' k k' h h' h1 => by simp [lk] at h1, fun b k h h1 => by simp [lk] at h1⟩ (fun b x h => by simp [Ph.no] at h)
  (by rintro n ⟨x, hx, rfl⟩; exact hlt x hx)
 refine hcall.mono ?_
 rintro e w' ⟨v, φ', R', rfl, hr, -, -, -, -, -, -, hext⟩
 cases hr
 have hbelow : Below w.heap.size w w' := hext.below (by rintro i ⟨b, k, h, h1, -⟩; simp [lk] at h1)
 obtain ⟨s1, s2, s3⟩ := hspec (ds ++ []) (by rw [List.append_nil]; exact g3)
 refine ⟨_, rfl, post_below (pa := before) (pv := []) hW' ?_ ?_ ?_ (by simp) hbelow ?_⟩
 ·intro b sp hd
  rw [s1, hres]
  exact trodAll_cons_mk (shut_bool hb _) trodAll_mk0
 ·intro sp hsp
  rw [s2, List.append_nil]
  exact trodAll_stays hl _ _ _ _ hread hA (fun x hx => hbelow.same (hlt x hx)) hsp
 ·intro sp hsp
  rw [s3, hvars]
  rfl
 ·exact ok_one hres rfl (okWide_bool_mk hb _)
end
end Go.Ab
