/- The abstract layer, part 15: the computation is right; steps for the user. -/
import Derived.Test.YtpoehckffpbfiaaGreatXAAb14
namespace Go.Ab
open Go.RowKit
variable {lim : Nat}
section
variable {P : Program} {tt : TT} {o : Oper} {s : St} {e : Eff}
theorem aload_sound {T : Nat} {x : Operand} (ht : TTok P tt) (ho : o.op = .load T x) (h : aload tt T s (s.ev x) = some e) : AStep P o s e := by
 unfold aload at h
 cases hT : lk T tt with
 | none => simp [hT] at h
 | some D =>
  have hD := ht T D hT
  simp only [hT] at h
  cases hx : s.ev x with
  | vp cs =>
   simp only [hx] at h
   cases hv : rd D cs 0 with
   | none => simp [hv] at h
   | some v => simp only [hv, Option.some.injEq] at h; subst h; exact as_load_vp ho hD hx hv
  | ref b i off =>
   simp only [hx] at h
   cases hb : lk b s.m with
   | none => simp [hb] at h
   | some ok =>
    cases ok with
    | none => simp [hb] at h
    | some k =>
     simp only [hb] at h
     cases he : getL k.xs i with
     | none => simp [he] at h
     | some ev =>
      simp only [he] at h
      cases hv : rd D ev.cells off with
      | none => simp [hv] at h
      | some v => simp only [hv, Option.some.injEq] at h; subst h; exact as_load_ref ho hD hx hb (getL_eq _ _ _ he) hv
  | _ => simp [hx] at h
theorem astore_sound {T : Nat} {x y : Operand} (ht : TTok P tt) (ho : o.op = .store T x y) (h : astore tt T s (s.ev x) (s.ev y) = some e) : AStep P o s e := by
 unfold astore at h
 cases hT : lk T tt with
 | none => simp [hT] at h
 | some D =>
  have hD := ht T D hT
  simp only [hT] at h
  cases hx : s.ev x with
  | ref b i off =>
   simp only [hx] at h
   cases hb : lk b s.m with
   | none => simp [hb] at h
   | some ok =>
    cases ok with
    | none => simp [hb] at h
    | some k =>
     obtain ⟨ty, esz, xs⟩ := k
     simp only [hb] at h
     cases he : getL xs i with
     | none => simp [he] at h
     | some ev =>
      simp only [he] at h
      have hne : s.ev y ≠ .bot := by intro hq; rw [hq] at h; simp at h
      have h' : (match Nat.beq (s.ev y).cells.length D.size && (s.ev y).cells.all AV.cellish with
       | false => none
       | true => match upd ev off (s.ev y).cells with
        | none => none
        | some e' => match setL xs i e' with
         | none => none
         | some xs' => some (⟨.tup [], [(b, some ⟨ty, esz, xs'⟩)], [b], []⟩ : Eff)) = some e := by
       generalize s.ev y = q at h hne
       cases q <;> first | exact absurd rfl hne | exact h
      cases hc : Nat.beq (s.ev y).cells.length D.size && (s.ev y).cells.all AV.cellish with
      | false => simp [hc] at h'
      | true =>
       simp only [hc] at h'
       simp only [Bool.and_eq_true] at hc
       cases hu : upd ev off (s.ev y).cells with
       | none => simp [hu] at h'
       | some e' =>
        simp only [hu] at h'
        cases hs : setL xs i e' with
        | none => simp [hs] at h'
        | some xs' =>
         simp only [hs, Option.some.injEq] at h'
         subst h'
         have := as_store ho hD hx hb rfl hne hc.1 hc.2 (getL_eq _ _ _ he) hu
         simp only [setL_eq _ _ _ _ hs] at this
         exact this
  | _ => simp [hx] at h
theorem afield_sound {t j : Nat} {x : Operand} (ht : TTok P tt) (ho : o.op = .fieldAddr t x j) (h : afield tt t j (s.ev x) = some e) : AStep P o s e := by
 unfold afield at h
 cases hT : lk t tt with
 | none => simp [hT] at h
 | some D =>
  have hD := ht t D hT
  simp only [hT] at h
  cases hk : D.k with
  | struct fs =>
   simp only [hk] at h
   cases hj : getF fs j with
   | none => simp [hj] at h
   | some p =>
    obtain ⟨fo, fz⟩ := p
    simp only [hj] at h
    rw [getF_eq] at hj
    cases hz : Nat.blt 0 fz with
    | false => simp [hz] at h
    | true =>
     simp only [hz] at h
     cases hx : s.ev x with
     | ref b i off => simp only [hx, Option.some.injEq] at h; subst h; exact as_fieldAddr_ref ho hD hk hj hz hx
     | vp cs =>
      simp only [hx] at h
      cases hl : dropC cs fo with
      | none => simp [hl] at h
      | some l => simp only [hl, Option.some.injEq] at h; subst h; exact as_fieldAddr_vp ho hD hk hj hz hx hl
     | _ => simp [hx] at h
  | _ => simp [hk] at h
theorem aindex_sound {t : Nat} {x y : Operand} (ht : TTok P tt) (ho : o.op = .indexAddr t x y) (h : aindex tt t s (s.ev x) (s.ev y) = some e) : AStep P o s e := by
 unfold aindex at h
 cases hT : lk t tt with
 | none => simp [hT] at h
 | some D =>
  have hD := ht t D hT
  simp only [hT] at h
  cases hy : s.ev y with
  | sc v =>
   cases v with
   | int k i =>
    simp only [hy] at h
    cases hk : D.k with
    | slice el =>
     simp only [hk] at h
     cases hE : lk el tt with
     | none => simp [hE] at h
     | some E =>
      have hEE := ht el E hE
      simp only [hE] at h
      cases hx : s.ev x with
      | sl xs =>
       simp only [hx] at h
       cases hn : natLt i xs.length with
       | none => simp [hn] at h
       | some n =>
        simp only [hn] at h
        obtain ⟨h1, h2, h3⟩ := natLt_spec hn
        cases hg : getL xs n with
        | none => simp [hg] at h
        | some ev =>
         simp only [hg] at h
         cases hb : Nat.beq ev.cells.length E.size with
         | false => simp [hb] at h
         | true => simp only [hb, Option.some.injEq] at h; subst h; exact as_index_sl ho hD hk hEE hx hy h1 (by rw [h3]; exact getL_eq _ _ _ hg) hb
      | arr b off len =>
       simp only [hx] at h
       cases hn : natLt i len with
       | none => simp [hn] at h
       | some n =>
        simp only [hn] at h
        obtain ⟨h1, h2, h3⟩ := natLt_spec hn
        cases hb : lk b s.m with
        | none => simp [hb] at h
        | some ok =>
         cases ok with
         | none => simp [hb] at h
         | some bk =>
          simp only [hb] at h
          cases hz : Nat.beq bk.esz E.size with
          | false => simp [hz] at h
          | true =>
           simp only [hz, Option.some.injEq] at h
           subst h
           have := as_index_arr ho hD hk hEE hx hy hb hz h1 h2
           rwa [h3] at this
      | _ => simp [hx] at h
    | array n el =>
     simp only [hk] at h
     cases hE : lk el tt with
     | none => simp [hE] at h
     | some E =>
      have hEE := ht el E hE
      simp only [hE] at h
      cases hn : natLt i n with
      | none => simp [hn] at h
      | some q =>
       simp only [hn] at h
       obtain ⟨h1, h2, h3⟩ := natLt_spec hn
       cases hx : s.ev x with
       | ref b j off =>
        simp only [hx, Option.some.injEq] at h
        subst h
        have := as_index_aref ho hD hk hEE hx hy h1 h2
        rwa [h3] at this
       | vp cs =>
        simp only [hx] at h
        cases hl : dropC cs (q * E.size) with
        | none => simp [hl] at h
        | some l => simp only [hl, Option.some.injEq] at h; subst h; exact as_index_avp ho hD hk hEE hx hy h1 h2 (by rw [h3]; exact hl)
       | _ => simp [hx] at h
    | _ => simp [hk] at h
   | _ => simp [hy] at h
  | _ => simp [hy] at h
theorem abuild_sound {t : Nat} {parts : Array (Nat × Operand)} (ht : TTok P tt) (ho : o.op = .build t parts) (h : abuild tt t s parts = some e) : AStep P o s e := by
 unfold abuild at h
 cases hT : lk t tt with
 | none => simp [hT] at h
 | some D =>
  have hD := ht t D hT
  simp only [hT] at h
  cases hp : forceParts s parts.toList with
  | none => simp [hp] at h
  | some ps =>
   simp only [hp] at h
   have hpe := forceParts_eq s _ _ hp
   cases hk : D.k with
   | struct fs =>
    simp only [hk] at h
    cases hz : posSizes fs with
    | false => simp [hz] at h
    | true =>
     simp only [hz] at h
     cases hl : afill (fun j => fs[j]?) D.zero.cells ps with
     | none => simp [hl] at h
     | some l => simp only [hl, Option.some.injEq] at h; subst h; exact as_build_struct ho hD hk hz (by rw [hpe]; exact hl)
   | array n el =>
    simp only [hk] at h
    cases hE : lk el tt with
    | none => simp [hE] at h
    | some E =>
     simp only [hE] at h
     cases hl : afill (fun j => some (j * E.size, E.size)) D.zero.cells ps with
     | none => simp [hl] at h
     | some l => simp only [hl, Option.some.injEq] at h; subst h; exact as_build_array ho hD hk (ht el E hE) (by rw [hpe]; exact hl)
   | _ => simp [hk] at h
theorem abuildSlice_sound {t len : Nat} {parts : Array (Nat × Operand)} {dst : Option Nat} (ht : TTok P tt) (ho : o.op = .buildSlice t len parts) (h : abuildSlice tt t len s parts dst = some e) : AStep P o s e := by
 unfold abuildSlice at h
 cases dst with
 | none => simp at h
 | some d =>
  simp only at h
  cases hT : lk t tt with
  | none => simp [hT] at h
  | some D =>
   have hD := ht t D hT
   simp only [hT] at h
   cases hk : D.k with
   | slice el =>
    simp only [hk] at h
    cases hE : lk el tt with
    | none => simp [hE] at h
    | some E =>
     simp only [hE] at h
     cases hz : Nat.blt 0 E.size && Nat.ble (len * E.size) 16777216 with
     | false => simp [hz] at h
     | true =>
      simp only [hz] at h
      simp only [Bool.and_eq_true] at hz
      cases hp : forceParts s parts.toList with
      | none => simp [hp] at h
      | some ps =>
       simp only [hp] at h
       cases hl : afill (fun j => some (j * E.size, E.size)) (zerosL E.zero.cells len) ps with
       | none => simp [hl] at h
       | some l =>
        simp only [hl] at h
        cases hg : group E.k.isAgg E.size len l with
        | none => simp [hg] at h
        | some xs =>
         simp only [hg, Option.some.injEq] at h
         subst h
         exact as_buildSlice ho hD hk (ht el E hE) hz.1 hz.2 (by rw [forceParts_eq s _ _ hp]; exact hl) hg
   | _ => simp [hk] at h
theorem abin_sound {op : BinOp} {t ty : Nat} {x y : Operand} (ho : o.op = .binOp op t x y ty) (h : abin op (s.ev x) (s.ev y) = some e) : AStep P o s e := by
 unfold abin at h
 split at h
 ·rename_i k a k' b hx hy
  split at h
  ·split at h
   ·cases h; exact as_shl ho hx hy (posI_ne ‹_›).2
   ·cases h
  ·split at h
   ·cases h; exact as_shr ho hx hy (posI_ne ‹_›).2
   ·cases h
  ·split at h
   ·cases h
   ·rename_i hk
    have := kEq_eq hk
    subst this
    split at h
    ·split at h
     ·cases h; exact as_quo ho hx hy (posI_ne ‹_›).1
     ·cases h
    ·split at h
     ·cases h; exact as_rem ho hx hy (posI_ne ‹_›).1
     ·cases h
    ·split at h
     ·cases h; exact as_int ho hx hy ‹_›
     ·cases h
 ·split at h
  ·cases h; exact as_str ho ‹_› ‹_› ‹_›
  ·cases h
 ·cases h
theorem abuiltin_sound {b : Builtin} {args : Array Operand} {tys : Array TypeId} {l : List AV} (ht : TTok P tt) (ho : o.op = bcall b args tys) (hl : args.toList.map s.ev = l) (h : abuiltin tt b l tys.toList = some e) : AStep P o s e := by
 obtain ⟨args⟩ := args
 obtain ⟨tys⟩ := tys
 unfold abuiltin at h
 split at h
 ·rename_i v t ht1
  match args, hl with
  | [x], hl =>
   simp at hl
   simp only at ht1
   cases hT : lk t tt with
   | none => simp [hT] at h
   | some D =>
    have hD := ht t D hT
    simp only [hT] at h
    subst ht1
    split at h
    ·split at h
     ·cases h; exact as_len ho hD ‹_› hl ‹_›
     ·cases h
    ·split at h
     ·cases h; exact as_len_str ho hD ‹_› hl
     ·cases h
    ·cases h; exact as_len_array ho hD ‹_›
    ·cases h
 ·match args, hl with
  | [x, y], hl =>
   simp at hl
   split at h
   ·rename_i hk
    have := kEq_eq hk
    subst this
    cases h
    exact as_max ho hl.1 hl.2
   ·cases h
  | [], hl => simp at hl
  | [_], hl => simp at hl
  | _ :: _ :: _ :: _, hl => simp at hl
 ·match args, hl with
  | [x, y], hl =>
   simp at hl
   split at h
   ·rename_i hk
    have := kEq_eq hk
    subst this
    cases h
    exact as_min ho hl.1 hl.2
   ·cases h
  | [], hl => simp at hl
  | [_], hl => simp at hl
  | _ :: _ :: _ :: _, hl => simp at hl
 ·cases h
theorem aop_sound (ht : TTok P tt) (h : aop tt o s = some e) : AStep P o s e := by
 unfold aop at h
 split at h
 ·rename_i x ho
  split at h
  ·cases h; exact as_move ho (force_eq ‹_›)
  ·cases h
 ·rename_i x ho
  split at h
  ·cases h; exact as_assign ho (force_eq ‹_›)
  ·cases h
 ·rename_i x y z ho
  split at h
  ·split at h
   ·cases h; exact as_pick (b := true) ho ‹_› (force_eq ‹_›)
   ·cases h
  ·split at h
   ·cases h; exact as_pick (b := false) ho ‹_› (force_eq ‹_›)
   ·cases h
  ·cases h
 ·rename_i T ho
  split at h
  ·cases h
  ·split at h
   ·cases h
   ·split at h
    ·cases h; exact as_alloc ho (ht _ _ ‹_›) ‹_›
    ·cases h
 ·rename_i T x ho
  split at h
  ·cases h
  ·split at h
   ·cases h
   ·rename_i k size bytes zero hT
    have hne : s.ev x ≠ .bot := by intro hq; rw [hq] at h; simp at h
    generalize hq : s.ev x = q at h hne
    split at h
    ·exact absurd rfl hne
    ·split at h
     ·rename_i hc
      simp only [Bool.and_eq_true] at hc
      split at h
      ·rename_i v hv
       have := force_eq hv
       subst this
       cases h
       exact as_box ho (ht _ _ hT) hq hne hc.1 hc.2
      ·cases h
     ·cases h
 ·exact aload_sound ht ‹_› h
 ·exact astore_sound ht ‹_› h
 ·exact afield_sound ht ‹_› h
 ·exact aindex_sound ht ‹_› h
 ·exact abuild_sound ht ‹_› h
 ·exact abuildSlice_sound ht ‹_› h
 ·split at h
  ·split at h
   ·cases h; exact as_extract ‹_› ‹_› (getL_eq _ _ _ ‹_›)
   ·cases h
  ·cases h
 ·exact abin_sound ‹_› h
 ·split at h
  ·split at h
   ·cases h; exact as_unary ‹_› ‹_› ‹_›
   ·cases h
  ·cases h
 ·split at h
  ·split at h
   ·cases h; exact as_conv ‹_› (ht _ _ ‹_›) (ht _ _ ‹_›) ‹_› ‹_› ‹_›
   ·cases h
  ·cases h
 ·split at h
  ·cases h
  ·split at h
   ·split at h
    ·cases h
    ·split at h
     ·cases h
     ·rename_i hn
      obtain ⟨h1, h2, h3⟩ := natLt_spec hn
      split at h
      ·cases h; exact as_index_val ‹_› (ht _ _ ‹_›) ‹_› (ht _ _ ‹_›) ‹_› ‹_› h1 h2 (by rw [h3]; assumption)
      ·cases h
   ·cases h
 ·split at h
  ·split at h
   ·cases h
   ·split at h
    ·cases h
    ·cases h; exact as_makeFunc ‹_› (forceL_eq s _ _ ‹_›) (forceL_eq s _ _ ‹_›)
  ·cases h
 ·rename_i c ho
  obtain ⟨callee, args, tys⟩ := c
  dsimp only at h
  split at h
  ·split at h
   ·cases h
   ·exact abuiltin_sound ht ho (forceL_eq s _ _ ‹_›) h
  ·cases h
 ·cases h
def nwOK (s : St) : List Nat → Bool
 | [] => true
 | b :: l => match lk b s.m with
  | none => Nat.blt b 1000 && nwOK s l
  | some _ => false
theorem nwOK_spec : ∀ {l : List Nat}, nwOK s l = true → ∀ b ∈ l, Fr s b
 | b :: l, h, b', hb => by
  simp only [nwOK] at h
  cases hq : lk b s.m with
  | some _ => simp [hq] at h
  | none =>
   simp only [hq, Bool.and_eq_true] at h
   rcases List.mem_cons.1 hb with rfl | hb
   ·exact ⟨hq, by simpa using h.1⟩
   ·exact nwOK_spec h.2 b' hb
def Go (P : Program) (ops : Array Oper) (draw : Bool) (Q : St → Prop) (l : List Oper) (s : St) (acc : List (Option Eff)) : Prop :=
 ∃ r, r.length = l.length ∧ (draw = true → okD ops (items 0 ops.toList (acc.reverse ++ r)) = true) ∧ ∀ i, Run P ops Q (items i l r) s
variable {ops : Array Oper} {draw : Bool} {Q : St → Prop} {acc : List (Option Eff)} {l : List Oper}
theorem go_nil (hd : draw = true → okD ops (items 0 ops.toList acc.reverse) = true) (h : Q s) : Go P ops draw Q [] s acc :=
 ⟨[], rfl, by simpa using hd, fun _ => h⟩
theorem go_one (hg : gchk ops s o = some true) (ha : AStep P o s e) (hn : nwOK s e.nw = true) (h : Go P ops draw Q l (s.app o.dst e) (some e :: acc)) : Go P ops draw Q (o :: l) s acc := by
 obtain ⟨r, h1, h2, h3⟩ := h
 refine ⟨some e :: r, by simp [h1], by simpa using h2, fun i => ⟨⟨hg, ha, nwOK_spec hn⟩, h3 (i + 1)⟩⟩
theorem go_skip (hg : gchk ops s o = some false) (h : Go P ops draw Q l (s.app o.dst undefEff) (none :: acc)) : Go P ops draw Q (o :: l) s acc := by
 obtain ⟨r, h1, h2, h3⟩ := h
 exact ⟨none :: r, by simp [h1], by simpa using h2, fun i => ⟨hg, h3 (i + 1)⟩⟩
def putF (n : Nat) (t : List (Nat × AV)) (dst : Option Nat) (v : AV) : Option (List (Nat × AV)) :=
 match dst with
 | none => some t
 | some d => match Nat.blt d n with
  | true => some ((d, v) :: t)
  | false => some t
def appF : Mem → Mem → Option Mem
 | [], m => some m
 | p :: l, m => match appF l m with
  | some r => some (p :: r)
  | none => none
theorem putF_eq {n : Nat} {t t' : List (Nat × AV)} {m : Mem} {dst : Option Nat} {v : AV} (h : putF n t dst v = some t') : (St.put ⟨n, t, m⟩ dst v).t = t' := by
 unfold putF at h
 unfold St.put
 cases dst with
 | none => simpa using h
 | some d =>
  dsimp only at h ⊢
  cases hb : Nat.blt d n with
  | true => rw [hb] at h; simpa using h
  | false => rw [hb] at h; simpa using h
theorem appF_eq : ∀ {w m r : Mem}, appF w m = some r → w ++ m = r
 | [], m, r, h => by simpa [appF] using h
 | p :: l, m, r, h => by
  simp only [appF] at h
  cases h1 : appF l m with
  | none => simp [h1] at h
  | some q => simp [h1] at h; subst h; simp [appF_eq h1]
def arun (tt : TT) (ops : Array Oper) : Nat → List Oper → Nat → List (Nat × AV) → Mem → List (Option Eff) → Option (List Oper × List (Nat × AV) × Mem × List (Option Eff))
 | 0, l, _, t, m, acc => some (l, t, m, acc)
 | _ + 1, [], _, _, _, _ => none
 | k + 1, o :: l, n, t, m, acc => match gchk ops ⟨n, t, m⟩ o with
  | some true => match aop tt o ⟨n, t, m⟩ with
   | some ⟨v, wr, ac, nw⟩ => match nwOK ⟨n, t, m⟩ nw with
    | true => match putF n t o.dst v with
     | some t' => match appF wr m with
      | some m' => arun tt ops k l n t' m' (some ⟨v, wr, ac, nw⟩ :: acc)
      | none => none
     | none => none
    | false => none
   | none => none
  | some false => match putF n t o.dst (.tup []) with
   | some t' => arun tt ops k l n t' m (none :: acc)
   | none => none
  | none => none
theorem go_run' (ht : TTok P tt) : ∀ (k : Nat) {l : List Oper} {n : Nat} {t : List (Nat × AV)} {m : Mem} {acc : List (Option Eff)} {l' : List Oper} {t' : List (Nat × AV)} {m' : Mem} {acc' : List (Option Eff)}, arun tt ops k l n t m acc = some (l', t', m', acc') → Go P ops draw Q l' ⟨n, t', m'⟩ acc' → Go P ops draw Q l ⟨n, t, m⟩ acc
 | 0, l, n, t, m, acc, l', t', m', acc', h, hg => by simp [arun] at h; obtain ⟨rfl, rfl, rfl, rfl⟩ := h; exact hg
 | k + 1, [], n, t, m, acc, l', t', m', acc', h, hg => by simp [arun] at h
 | k + 1, o :: l, n, t, m, acc, l', t', m', acc', h, hg => by
  simp only [arun] at h
  cases h1 : gchk ops ⟨n, t, m⟩ o with
  | none => simp [h1] at h
  | some b =>
   cases b with
   | false =>
    simp only [h1] at h
    cases h4 : putF n t o.dst (.tup []) with
    | none => simp [h4] at h
    | some t1 =>
     simp only [h4] at h
     refine go_skip h1 ?_
     have e : St.app ⟨n, t, m⟩ o.dst undefEff = ⟨n, t1, m⟩ := by simp only [St.app, undefEff, putF_eq (m := m) h4, List.nil_append]
     rw [e]
     exact go_run' ht k h hg
   | true =>
    simp only [h1] at h
    cases h2 : aop tt o ⟨n, t, m⟩ with
    | none => simp [h2] at h
    | some e =>
     obtain ⟨v, wr, ac, nw⟩ := e
     simp only [h2] at h
     cases h3 : nwOK ⟨n, t, m⟩ nw with
     | false => simp [h3] at h
     | true =>
      simp only [h3] at h
      cases h4 : putF n t o.dst v with
      | none => simp [h4] at h
      | some t1 =>
       simp only [h4] at h
       cases h5 : appF wr m with
       | none => simp [h5] at h
       | some m1 =>
        simp only [h5] at h
        refine go_one h1 (aop_sound ht h2) h3 ?_
        have e : St.app ⟨n, t, m⟩ o.dst ⟨v, wr, ac, nw⟩ = ⟨n, t1, m1⟩ := by simp only [St.app, putF_eq (m := m) h4, appF_eq h5]
        rw [e]
        exact go_run' ht k h hg
theorem go_step {o : Oper} {n : Nat} {t t' : List (Nat × AV)} {m m' : Mem} {v : AV} {wr : Mem} {ac nw : List Nat} (hg : gchk ops ⟨n, t, m⟩ o = some true) (ha : AStep P o ⟨n, t, m⟩ ⟨v, wr, ac, nw⟩) (hn : nwOK ⟨n, t, m⟩ nw = true) (hp : putF n t o.dst v = some t') (hm : appF wr m = some m')
  (h : Go P ops draw Q l ⟨n, t', m'⟩ (some ⟨v, wr, ac, nw⟩ :: acc)) : Go P ops draw Q (o :: l) ⟨n, t, m⟩ acc := by
 refine go_one hg ha hn ?_
 have e : St.app ⟨n, t, m⟩ o.dst ⟨v, wr, ac, nw⟩ = ⟨n, t', m'⟩ := by simp only [St.app, putF_eq (m := m) hp, appF_eq hm]
 rw [e]
 exact h
theorem awp_go {id : Nat} {Q : Exit → St → Prop} (hmix : P.follows .mixedOrders = true) (h : Go P ops draw (Q .normal) ops.toList s []) : AWP P lim (.region id ops draw) Q s := by
 obtain ⟨r, h1, h2, h3⟩ := h
 exact awp_region hmix h1.symm (by simpa using h2) (h3 0)
def argF : Nat → List AV → Option (List (Nat × AV))
 | _, [] => some []
 | k, a :: l => match force a with
  | none => none
  | some v => match argF (k + 1) l with
   | none => none
   | some r => some ((k, v) :: r)
theorem argF_eq : ∀ {k : Nat} {l : List AV} {r : List (Nat × AV)}, argF k l = some r → argSlots k l = r
 | k, [], r, h => by simp [argF] at h; subst h; rfl
 | k, a :: l, r, h => by
  simp only [argF] at h
  cases h1 : force a with
  | none => simp [h1] at h
  | some v =>
   cases h2 : argF (k + 1) l with
   | none => simp [h1, h2] at h
   | some q => simp [h1, h2] at h; subst h; simp [argSlots, argF_eq h2, force_eq h1]
theorem holds_fn {f n : Nat} {fn : Func} {body : Code} {args : List AV} {M : Mem} {r : AV} {M' : Mem} {t : List (Nat × AV)} (hf : P.funcs[f]? = some fn) (hb : fn.body = some body) (hn : fn.ntmps = n) (hlen : Nat.ble args.length n = true) (hM : bigKeys M = true) (ht : argF 0 args = some t)
  (h : ∀ lim, AWP P lim body (retQ (FinOK P fn M r M')) ⟨n, t, M⟩) : Holds P f args M r M' :=
 holds_of_awp hf hb hn hlen hM (by rw [argF_eq ht]; exact h)
def FnOK (P : Program) (f : Nat) : Prop := ∃ fn, P.funcs[f]? = some fn ∧ (fn.name == "runtime.NumGoroutine") = false ∧ fn.body.isNone = false
mutual
theorem wkP_refl {m : Mem} {ρ : Rho} : ∀ (a : AV), noref a = true → wkP m ρ a a
 | .bot, _ => by simp [wkP]
 | .sc v, _ => by
  simp only [wkP]
  unfold scEq
  split
  ·simp_all
  ·simp_all
  ·rfl
 | .nilS, _ => by simp [wkP]
 | .agg cs, h => by simp only [wkP]; exact wkL_refl cs (by simpa [noref] using h)
 | .tup cs, h => by simp only [wkP]; exact wkL_refl cs (by simpa [noref] using h)
 | .sl xs, _ => by simp [wkP]
 | .vp cs, _ => by simp [wkP]
 | .ref _ _ _, h => by simp [noref] at h
 | .arr _ _ _, h => by simp [noref] at h
 | .clo _ a b, h => by
  simp only [noref, Bool.and_eq_true] at h
  simp only [wkP]
  exact ⟨trivial, wkL_refl a h.1, wkL_refl b h.2⟩
 | .mpv _ _ _, h => by simp [noref] at h
 | .slx _, _ => by simp [wkP]
theorem wkL_refl {m : Mem} {ρ : Rho} : ∀ (l : List AV), norefL l = true → wkL m ρ l l
 | [], _ => by simp [wkL]
 | a :: l, h => by
  simp only [norefL, Bool.and_eq_true] at h
  simp only [wkL]
  exact ⟨wkP_refl a h.1, wkL_refl l h.2⟩
end
theorem go_callL {o : Oper} {n f : Nat} {t t' : List (Nat × AV)} {m : Mem} {xs : Array Operand} {tys : Array TypeId} {avs args : List AV} {L : Mem} {r v : AV} (hf : FnOK P f) (H : Holds P f args [] r []) (hg : gchk ops ⟨n, t, m⟩ o = some true) (ho : o.op = fcall (.func f) xs tys) (hav : forceL ⟨n, t, m⟩ xs.toList = some avs)
  (hL : lendsOK [] m L) (hargs : wkL L [] avs args) (hv : force r = some v) (hr : noref v = true) (hns : L ≠ [] → noSl v = true) (hp : putF n t o.dst v = some t') (h : Go P ops draw Q l ⟨n, t', m⟩ (some ⟨v, [], L.map (·.1), []⟩ :: acc)) : Go P ops draw Q (o :: l) ⟨n, t, m⟩ acc := by
 obtain ⟨fn, h1, h2, h3⟩ := hf
 have hvr := force_eq hv
 subst hvr
 refine go_step hg (as_call (M := []) (M' := []) (L := L) (W := []) (ρ := []) (σ := []) ho h1 h2 h3 rfl (by rw [forceL_eq _ _ _ hav]; simp) H hL hargs rfl rfl trivial rfl rfl trivial (wkP_refl r hr) rfl (fun hne => ⟨hns hne, trivial⟩)) rfl hp rfl h
theorem go_call {o : Oper} {n f : Nat} {t t' : List (Nat × AV)} {m : Mem} {xs : Array Operand} {tys : Array TypeId} {avs : List AV} {r v : AV} (hf : FnOK P f) (H : Holds P f avs [] r []) (hg : gchk ops ⟨n, t, m⟩ o = some true) (ho : o.op = fcall (.func f) xs tys) (hav : forceL ⟨n, t, m⟩ xs.toList = some avs)
  (hargs : norefL avs = true) (hv : force r = some v) (hr : noref v = true) (hp : putF n t o.dst v = some t') (h : Go P ops draw Q l ⟨n, t', m⟩ (some ⟨v, [], [], []⟩ :: acc)) : Go P ops draw Q (o :: l) ⟨n, t, m⟩ acc :=
 go_callL hf H hg ho hav (L := []) trivial (wkL_refl avs hargs) hv hr (fun h => absurd rfl h) hp h
theorem then_norm {next : St → Prop} {Q : Exit → St → Prop} (h : next s) : thenQ next Q .normal s := h
theorem then_ret {next : St → Prop} {Q : Exit → St → Prop} (h : Q .ret s) : thenQ next Q .ret s := h
theorem then_exit {next : St → Prop} {Q : Exit → St → Prop} {id : Nat} (h : Q (.exit id) s) : thenQ next Q (.exit id) s := h
theorem block_norm {Q : Exit → St → Prop} {id : Nat} (h : Q .normal s) : blockQ id Q .normal s := h
theorem block_ret {Q : Exit → St → Prop} {id : Nat} (h : Q .ret s) : blockQ id Q .ret s := h
theorem block_here {Q : Exit → St → Prop} {id : Nat} (h : Q .normal s) : blockQ id Q (.exit id) s := by simp only [blockQ, if_true]; exact h
theorem ret_norm {F : St → Prop} (h : F s) : retQ F .normal s := h
theorem ret_ret {F : St → Prop} (h : F s) : retQ F .ret s := h
theorem go_gcase {o : Oper} {j d : Nat} {want b : Bool} (_hgd : o.guard = some (j, want)) (_hj : (ops[j]?).bind (·.dst) = some d) (_hb : s.get d = .sc (.bool b)) (h1 : b = true → Go P ops draw Q (o :: l) s acc) (h2 : b = false → Go P ops draw Q (o :: l) s acc) : Go P ops draw Q (o :: l) s acc := by
 cases b
 ·exact h2 rfl
 ·exact h1 rfl
end
end Go.Ab
