/- The abstract layer, part 17: the arguments of a law, opened by their shapes; a law's statement from what its function does. -/
import Derived.Test.YtpoehckffpbfiaaGreatXAAb16
import Derived.ProofKit
import Derived.OpenShut
namespace Go.Ab
open Go.RowKit Go.WideShapes Go.ChangeShapes
inductive Sh where
 | int (k : IntKind)
 | bool
 | str
 | slice (e : Sh)
 | struct (fs : List Sh)
mutual
def Sh.size : Sh → Nat
 | .int _ => 1
 | .bool => 1
 | .str => 1
 | .slice _ => 1
 | .struct fs => Sh.sizes fs
def Sh.sizes : List Sh → Nat
 | [] => 0
 | f :: fs => Sh.size f + Sh.sizes fs
end
def Sh.pack : Sh → List AV → AV
 | .struct _, cs => .agg cs
 | _, [c] => c
 | _, cs => .agg cs
mutual
def CellsOf : Sh → List AV → Prop
 | .int k, cs => ∃ n, cs = [.sc (.int k n)] ∧ k.min ≤ n ∧ n ≤ k.max
 | .bool, cs => ∃ b, cs = [.sc (.bool b)]
 | .str, cs => ∃ s : ByteArray, cs = [.sc (.string s)] ∧ s.size ≤ maxLen
 | .slice e, cs => ∃ xs : List AV, cs = [.sl xs] ∧ xs.length ≤ maxLen ∧ ∀ x, x ∈ xs → ∃ ecs, x = e.pack ecs ∧ CellsOf e ecs
 | .struct fs, cs => CellsAll fs cs
def CellsAll : List Sh → List AV → Prop
 | [], cs => cs = []
 | f :: fs, cs => ∃ a b, cs = a ++ b ∧ CellsOf f a ∧ CellsAll fs b
end
def Of (s : Sh) (a : AV) : Prop := ∃ cs, a = s.pack cs ∧ CellsOf s cs
def arrFields (n : Nat) (e : TypeId) (z : Nat) : List Field := (List.range n).map fun i => { name := "", type := e, offset := i * z, embedded := false, tag := "", pkgPath := "", byteOffset := 0 }
mutual
def fitsB (P : Program) : Sh → TypeId → Bool
 | .int k, t => match P.underlying t with
  | some (.int k') => decide (k' = k)
  | _ => false
 | .bool, t => match P.underlying t with
  | some .bool => true
  | _ => false
 | .str, t => match P.underlying t with
  | some .string => true
  | _ => false
 | .slice e, t => match P.underlying t with
  | some (.slice u) => fitsB P e u && (decide (P.cellsOf u = e.size) && decide (0 < e.size))
  | _ => false
 | .struct fs, t => match P.underlying t with
  | some (.struct gs) => fitsAllB P fs gs.toList 0 && decide (P.cellsOf t = Sh.sizes fs)
  | some (.array n e) => fitsAllB P fs (arrFields n e (P.cellsOf e)) 0 && decide (P.cellsOf t = Sh.sizes fs)
  | _ => false
def fitsAllB (P : Program) : List Sh → List Field → Nat → Bool
 | [], [], _ => true
 | f :: fs, g :: gs, o => decide (g.offset = o) && (fitsB P f g.type && (decide (P.cellsOf g.type = f.size) && fitsAllB P fs gs (o + f.size)))
 | _, _, _ => false
end
def inB (ps : List MemPlace) (n : Nat) : Prop := ∃ p, p ∈ ps ∧ p.block = n
theorem Rel.more {w : World} {R R' : Nat → Prop} {φ : Ph} {a : AV} {v : Value} (h : Rel w R φ a v) (hR : ∀ n, R n → R' n) : Rel w R' φ a v :=
 h.mono (fun _ _ => rfl) hR (fun _ _ h => h)
mutual
theorem CellsOf.length : ∀ (s : Sh) (cs : List AV), CellsOf s cs → cs.length = s.size
 | .int _, _, h => by obtain ⟨n, rfl, _⟩ := h; rfl
 | .bool, _, h => by obtain ⟨b, rfl⟩ := h; rfl
 | .str, _, h => by obtain ⟨b, rfl, _⟩ := h; rfl
 | .slice _, _, h => by obtain ⟨b, rfl, _⟩ := h; rfl
 | .struct fs, cs, h => by rw [CellsOf] at h; rw [Sh.size]; exact CellsAll.length fs cs h
theorem CellsAll.length : ∀ (fs : List Sh) (cs : List AV), CellsAll fs cs → cs.length = Sh.sizes fs
 | [], cs, h => by rw [CellsAll] at h; subst h; rfl
 | f :: fs, cs, h => by
  rw [CellsAll] at h
  obtain ⟨a, b, rfl, h1, h2⟩ := h
  rw [List.length_append, CellsOf.length f a h1, CellsAll.length fs b h2, Sh.sizes]
end
theorem pack_cells {s : Sh} {cs : List AV} (h : CellsOf s cs) : (s.pack cs).cells = cs := by
 cases s with
 | int k => obtain ⟨n, rfl, _⟩ := h; rfl
 | bool => obtain ⟨b, rfl⟩ := h; rfl
 | str => obtain ⟨b, rfl, _⟩ := h; rfl
 | slice e => rw [CellsOf] at h; obtain ⟨b, rfl, _⟩ := h; rfl
 | struct fs => rfl
section
variable {H : Type} {enc : TypeId × Value → H} {P : Program} {w : World} {held : Bool}
theorem cells?_get {base : Nat} {a : Addr} {n : Nat} {l : List Value} (h : w.cells? base a n = some l) : l.length = n ∧ ∀ i v, l[i]? = some v → w.cell? (a.add i) = some v := by
 unfold World.cells? at h
 split at h
 ·have hlen : l.length = n := by simpa using mapM_some_length h
  refine ⟨hlen, fun i v hv => ?_⟩
  have hi : i < n := by
   have := (List.getElem?_eq_some_iff.1 hv).1
   omega
  have := mapM_some_get h i i (by simp [hi])
  rw [hv] at this
  exact this
 ·cases h
mutual
theorem openCells : ∀ (s : Sh) (t fuel : Nat) (cs : List Value) (x : DataW H × List MemPlace), fitsB P s t = true → DataW.trod enc P w 0 (fun _ => true) held fuel t cs = some x →
  ∃ acs, CellsOf s acs ∧ acs.length = cs.length ∧ ∀ (i : Nat) (a : AV) (v : Value), acs[i]? = some a → cs[i]? = some v → Rel w (inB x.2) Ph.no a v
 | .int k, t, fuel, cs, x, hf, h => by
  rw [fitsB] at hf
  split at hf
  ·rename_i k' ht
   obtain rfl := of_decide_eq_true hf
   obtain ⟨n, rfl, rfl, hw⟩ := DataW.trod_int ht h
   simp only [Lit.wf, Bool.and_eq_true, decide_eq_true_eq] at hw
   refine ⟨[.sc (.int k' n)], by rw [CellsOf]; exact ⟨n, rfl, hw⟩, rfl, ?_⟩
   intro i a v h1 h2
   cases i with
   | zero => simp at h1 h2; subst h1; subst h2; exact .sc rfl
   | succ i => simp at h1
  ·cases hf
 | .bool, t, fuel, cs, x, hf, h => by
  rw [fitsB] at hf
  split at hf
  ·rename_i ht
   obtain ⟨n, rfl, rfl⟩ := DataW.trod_bool ht h
   refine ⟨[.sc (.bool n)], by rw [CellsOf]; exact ⟨n, rfl⟩, rfl, ?_⟩
   intro i a v h1 h2
   cases i with
   | zero => simp at h1 h2; subst h1; subst h2; exact .sc rfl
   | succ i => simp at h1
  ·cases hf
 | .str, t, fuel, cs, x, hf, h => by
  rw [fitsB] at hf
  split at hf
  ·rename_i ht
   obtain ⟨n, rfl, rfl, hw⟩ := DataW.trod_string ht h
   refine ⟨[.sc (.string n)], by rw [CellsOf]; exact ⟨n, rfl, hw⟩, rfl, ?_⟩
   intro i a v h1 h2
   cases i with
   | zero => simp at h1 h2; subst h1; subst h2; exact .sc rfl
   | succ i => simp at h1
  ·cases hf
 | .slice e, t, fuel, cs, x, hf, h => by
  rw [fitsB] at hf
  split at hf
  ·rename_i u ht
   simp only [Bool.and_eq_true, decide_eq_true_eq] at hf
   obtain ⟨hf, hsz, hpos⟩ := hf
   rcases DataW.trod_slice ht h with ⟨rfl, rfl⟩ | ⟨a, len, cap, elems, rest, n, rfl, rfl, rfl, _, hlc, hcm, hel, hg, _, _⟩
   ·refine ⟨[.sl []], by rw [CellsOf]; exact ⟨[], rfl, by simp, by simp⟩, rfl, ?_⟩
    intro i a v h1 h2
    cases i with
    | zero => simp at h1 h2; subst h1; subst h2; exact .sl0
    | succ i => simp at h1
   ·have each : ∀ i, i < len → ∃ (ecs : List AV) (l : List Value) (z : DataW H × List MemPlace), CellsOf e ecs ∧ ecs.length = l.length ∧ l.length = e.size ∧ elems[i]? = some z ∧
      (∀ j v, l[j]? = some v → w.cell? ((a.add (i * e.size)).add j) = some v) ∧ ∀ (j : Nat) (c : AV) (v : Value), ecs[j]? = some c → l[j]? = some v → Rel w (inB z.2) Ph.no c v := by
     intro i hi
     have h1 := hg i hi
     have hlt : i < elems.length := by omega
     rw [List.getElem?_eq_getElem hlt, hsz] at h1
     rw [Option.bind_eq_some_iff] at h1
     obtain ⟨l, hl, hz⟩ := h1
     obtain ⟨hll, hlc⟩ := cells?_get hl
     obtain ⟨ecs, h2, h3, h4⟩ := openCells e u n l _ hf hz
     exact ⟨ecs, l, _, h2, h3, hll, List.getElem?_eq_getElem hlt, hlc, h4⟩
    by_cases hz : len = 0
    ·subst hz
     refine ⟨[.sl []], by rw [CellsOf]; exact ⟨[], rfl, by simp, by simp⟩, rfl, ?_⟩
     intro i a' v h1 h2
     cases i with
     | zero => simp at h1 h2; subst h1; subst h2; exact .sl0
     | succ i => simp at h1
    ·have hspot : a.spot = none := by
      obtain ⟨ecs, l, z, _, _, h3, _, h5, _⟩ := each 0 (by omega)
      have hl0 : 0 < l.length := by omega
      have := World.cell?_spot (h5 0 l[0] (List.getElem?_eq_getElem hl0))
      simpa [Addr.add] using this
     obtain ⟨b, o, spot⟩ := a
     simp only at hspot
     subst hspot
     have each' : ∀ i : Fin len, ∃ q : List AV × List Value × (DataW H × List MemPlace), CellsOf e q.1 ∧ q.1.length = q.2.1.length ∧ q.2.1.length = e.size ∧ elems[i.1]? = some q.2.2 ∧
       (∀ j v, q.2.1[j]? = some v → w.cell? ⟨b, o + (i.1 * e.size + j), none⟩ = some v) ∧ ∀ (j : Nat) (c : AV) (v : Value), q.1[j]? = some c → q.2.1[j]? = some v → Rel w (inB q.2.2.2) Ph.no c v := by
      intro i
      obtain ⟨ecs, l, z, h1, h2, h3, h4, h5, h6⟩ := each i.1 i.2
      refine ⟨(ecs, l, z), h1, h2, h3, h4, fun j v hj => ?_, h6⟩
      have := h5 j v hj
      rw [add_plain, add_plain, Nat.add_assoc] at this
      exact this
     have pick := fun i => Classical.choose_spec (each' i)
     let q := fun i => Classical.choose (each' i)
     have hq : ∀ i, CellsOf e (q i).1 ∧ (q i).1.length = (q i).2.1.length ∧ (q i).2.1.length = e.size ∧ elems[i.1]? = some (q i).2.2 ∧
       (∀ j v, (q i).2.1[j]? = some v → w.cell? ⟨b, o + (i.1 * e.size + j), none⟩ = some v) ∧ ∀ (j : Nat) (c : AV) (v : Value), (q i).1[j]? = some c → (q i).2.1[j]? = some v → Rel w (inB (q i).2.2.2) Ph.no c v := pick
     clear pick
     generalize q = q at hq
     have hxl : (List.ofFn fun i => e.pack (q i).1).length = len := by simp
     refine ⟨[.sl (List.ofFn fun i => e.pack (q i).1)], ?_, rfl, ?_⟩
     ·rw [CellsOf]
      refine ⟨_, rfl, by rw [hxl]; omega, fun x hx => ?_⟩
      rw [List.mem_ofFn] at hx
      obtain ⟨i, rfl⟩ := hx
      exact ⟨_, rfl, (hq i).1⟩
     ·intro i a' v h1 h2
      cases i with
      | succ i => simp at h1
      | zero =>
       simp at h1 h2
       subst h1; subst h2
       have hget : ∀ (i : Nat) (x : AV), (List.ofFn fun i => e.pack (q i).1)[i]? = some x → ∃ hi : i < len, x = e.pack (q ⟨i, hi⟩).1 := by
        intro i x hx
        rw [List.getElem?_ofFn] at hx
        split at hx
        ·rename_i hi
         simp at hx
         exact ⟨hi, hx.symm⟩
        ·cases hx
       have hcell : ∀ k, k < len * e.size → ∃ hi : k / e.size < len, w.cell? ⟨b, o + k, none⟩ = some ((q ⟨k / e.size, hi⟩).2.1.getD (k % e.size) undef) := by
        intro k hk
        have hi : k / e.size < len := by rw [Nat.div_lt_iff_lt_mul hpos]; exact hk
        refine ⟨hi, ?_⟩
        obtain ⟨_, _, h3, _, h5, _⟩ := hq ⟨k / e.size, hi⟩
        have hm : k % e.size < (q ⟨k / e.size, hi⟩).2.1.length := by rw [h3]; exact Nat.mod_lt _ hpos
        have := h5 (k % e.size) _ (List.getElem?_eq_getElem hm)
        have hdm : k / e.size * e.size + k % e.size = k := Nat.div_add_mod' k e.size
        simp only [hdm] at this
        rw [this]
        simp [List.getD, List.getElem?_eq_getElem hm]
       have hb0 : inB (MemPlace.row ⟨b, o, none⟩ ((elems.length + rest.length) * P.cellsOf u) ++ (elems ++ rest).flatMap (·.2)) b := by
        refine ⟨.cell b o, List.mem_append_left _ ?_, rfl⟩
        unfold MemPlace.row
        refine List.mem_map.2 ⟨0, ?_, by simp⟩
        rw [List.mem_range, hsz]
        exact Nat.mul_pos (by omega) hpos
       have key : Rel w (inB (MemPlace.row ⟨b, o, none⟩ ((elems.length + rest.length) * P.cellsOf u) ++ (elems ++ rest).flatMap (·.2))) Ph.no (.sl (List.ofFn fun i => e.pack (q i).1))
         (.slice (some ⟨b, o, none⟩) (List.ofFn fun i => e.pack (q i).1).length cap) := by
        refine .sl (fun k => if hi : k / e.size < len then (q ⟨k / e.size, hi⟩).2.1.getD (k % e.size) undef else undef) hpos hb0 (by rw [hxl]; exact hlc) ?_ ?_ ?_
        ·intro i x hx
         obtain ⟨hi, rfl⟩ := hget i x hx
         rw [pack_cells (hq _).1, (hq _).2.1, (hq _).2.2.1]
        ·intro k hk
         rw [hxl] at hk
         obtain ⟨hi, hc⟩ := hcell k hk
         simp only [hi, dite_true]
         exact hc
        ·intro i x j c hx hc
         obtain ⟨hi, rfl⟩ := hget i x hx
         obtain ⟨g1, g2, g3, g4, g5, g6⟩ := hq ⟨i, hi⟩
         rw [pack_cells g1] at hc
         have hj : j < e.size := by
          have := (List.getElem?_eq_some_iff.1 hc).1
          omega
         have e1 : (i * e.size + j) / e.size = i := by
          rw [Nat.add_comm, Nat.add_mul_div_right _ _ hpos, Nat.div_eq_of_lt hj, Nat.zero_add]
         have e2 : (i * e.size + j) % e.size = j := by
          rw [Nat.add_comm, Nat.add_mul_mod_self_right, Nat.mod_eq_of_lt hj]
         have hjl : j < (q ⟨i, hi⟩).2.1.length := by omega
         have hrel := g6 j c _ hc (List.getElem?_eq_getElem hjl)
         have hval : (if hi : (i * e.size + j) / e.size < len then (q ⟨(i * e.size + j) / e.size, hi⟩).2.1.getD ((i * e.size + j) % e.size) undef else undef) = (q ⟨i, hi⟩).2.1[j] := by
          have : ∀ i', i' = i → (if hi' : i' < len then (q ⟨i', hi'⟩).2.1.getD ((i * e.size + j) % e.size) undef else undef) = (q ⟨i, hi⟩).2.1[j] := by
           intro i' he
           subst he
           rw [dif_pos hi, e2]
           simp [List.getD, List.getElem?_eq_getElem hjl]
          exact this _ e1
         rw [hval]
         refine hrel.more ?_
         rintro n ⟨p, hp, hpn⟩
         refine ⟨p, List.mem_append_right _ (List.mem_flatMap.2 ⟨_, List.mem_append_left _ (List.mem_of_getElem? g4), hp⟩), hpn⟩
       rw [hxl] at key
       exact key
  ·cases hf
 | .struct fs, t, fuel, cs, x, hf, h => by
  rw [fitsB] at hf
  split at hf
  ·rename_i gs ht
   simp only [Bool.and_eq_true, decide_eq_true_eq] at hf
   obtain ⟨hf, hsz⟩ := hf
   obtain ⟨xs, n, rfl, rfl, hcl, hxl, hg⟩ := DataW.trod_struct ht h
   rw [hsz] at hcl
   have := openAll fs gs.toList n 0 cs xs hf (by rw [hcl]; omega) (by simp [hxl]) (fun i f hf => hg i f (by simpa using hf))
   obtain ⟨acs, h1, h2, h3⟩ := this
   exact ⟨acs, by rw [CellsOf]; exact h1, by simpa using h2, by simpa using h3⟩
  ·rename_i m e ht
   simp only [Bool.and_eq_true, decide_eq_true_eq] at hf
   obtain ⟨hf, hsz⟩ := hf
   obtain ⟨xs, n, rfl, rfl, hcl, hxl, hg⟩ := DataW.trod_array ht h
   rw [hsz] at hcl
   have := openAll fs (arrFields m e (P.cellsOf e)) n 0 cs xs hf (by rw [hcl]; omega) (by simp [hxl, arrFields]) (fun i f hf => by
    unfold arrFields at hf
    rw [List.getElem?_map] at hf
    by_cases hi : i < m
    ·rw [List.getElem?_range hi] at hf
     simp at hf
     subst hf
     exact hg i hi
    ·rw [List.getElem?_eq_none (by simp; omega)] at hf
     cases hf)
   obtain ⟨acs, h1, h2, h3⟩ := this
   exact ⟨acs, by rw [CellsOf]; exact h1, by simpa using h2, by simpa using h3⟩
  ·cases hf
theorem openAll : ∀ (fs : List Sh) (gs : List Field) (n o : Nat) (cs : List Value) (xs : List (DataW H × List MemPlace)), fitsAllB P fs gs o = true → cs.length = o + Sh.sizes fs → xs.length = gs.length →
  (∀ (i : Nat) (f : Field), gs[i]? = some f → DataW.trod enc P w 0 (fun _ => true) held n f.type ((cs.drop f.offset).take (P.cellsOf f.type)) = xs[i]?) →
  ∃ acs, CellsAll fs acs ∧ acs.length = (cs.drop o).length ∧ ∀ (i : Nat) (a : AV) (v : Value), acs[i]? = some a → (cs.drop o)[i]? = some v → Rel w (inB (xs.flatMap (·.2))) Ph.no a v
 | [], [], n, o, cs, xs, hf, hl, hxl, hg => by
  refine ⟨[], by rw [CellsAll], by simp [hl, Sh.sizes], by intro i a v h; simp at h⟩
 | f :: fs, g :: gs, n, o, cs, xs, hf, hl, hxl, hg => by
  rw [fitsAllB] at hf
  simp only [Bool.and_eq_true, decide_eq_true_eq] at hf
  obtain ⟨ho, hf1, hsz, hf2⟩ := hf
  rw [Sh.sizes] at hl
  match xs, hxl with
  | x0 :: xs, hxl =>
   have h0 := hg 0 g rfl
   rw [ho, hsz] at h0
   obtain ⟨a0, c1, c2, c3⟩ := openCells f g.type n _ x0 hf1 (by simpa using h0)
   obtain ⟨a1, d1, d2, d3⟩ := openAll fs gs n (o + f.size) cs xs hf2 (by omega) (by simpa using hxl) (fun i f' hf' => by simpa using hg (i + 1) f' (by simpa using hf'))
   have hl0 : a0.length = f.size := CellsOf.length f a0 c1
   refine ⟨a0 ++ a1, by rw [CellsAll]; exact ⟨a0, a1, rfl, c1, d1⟩, ?_, ?_⟩
   ·rw [List.length_append, d2, hl0]; simp only [List.length_drop]; omega
   ·intro i a v h1 h2
    by_cases hi : i < a0.length
    ·rw [List.getElem?_append_left hi] at h1
     have h2' : ((cs.drop o).take f.size)[i]? = some v := by rw [List.getElem?_take, if_pos (by omega)]; exact h2
     refine (c3 i a v h1 h2').more ?_
     rintro m ⟨p, hp, hm⟩
     exact ⟨p, by simp [hp], hm⟩
    ·rw [List.getElem?_append_right (by omega)] at h1
     have h2' : (cs.drop (o + f.size))[i - a0.length]? = some v := by
      rw [List.getElem?_drop] at h2 ⊢
      rw [← h2]
      congr 1
      omega
     refine (d3 _ a v h1 h2').more ?_
     rintro m ⟨p, hp, hm⟩
     refine ⟨p, ?_, hm⟩
     rw [List.flatMap_cons, List.mem_append]
     exact Or.inr hp
 | [], _ :: _, _, _, _, _, hf, _, _, _ => by simp [fitsAllB] at hf
 | _ :: _, [], _, _, _, _, hf, _, _, _ => by simp [fitsAllB] at hf
end
end
end Go.Ab
