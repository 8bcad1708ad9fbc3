/- The abstract layer, part 14: running operations by computation. -/
import Derived.Test.YtpoehckffpbfiaaGreatXAAb13
namespace Go.Ab
open Go.RowKit
abbrev TT := List (Nat × TyD)
def TTok (P : Program) (tt : TT) : Prop := ∀ t d, lk t tt = some d → tyOf P t = some d
theorem ttok_nil (P : Program) : TTok P [] := fun t d h => by simp [lk] at h
theorem ttok_cons {P : Program} {t : Nat} {d : TyD} {l : TT} (h : tyOf P t = some d) (hl : TTok P l) : TTok P ((t, d) :: l) := by
 intro t' d' h'
 rw [lk_cons] at h'
 split at h'
 ·subst_vars; cases h'; exact h
 ·exact hl t' d' h'
def force : AV → Option AV
 | .bot => some .bot
 | .sc v => some (.sc v)
 | .nilS => some .nilS
 | .agg cs => some (.agg cs)
 | .tup cs => some (.tup cs)
 | .sl xs => some (.sl xs)
 | .vp cs => some (.vp cs)
 | .ref b i off => some (.ref b i off)
 | .arr b off len => some (.arr b off len)
 | .clo f a b => some (.clo f a b)
 | .mpv d r ks => some (.mpv d r ks)
 | .slx xs => some (.slx xs)
theorem force_eq {a v : AV} (h : force a = some v) : a = v := by cases a <;> simp [force] at h <;> exact h
def forceParts (s : St) : List (Nat × Operand) → Option (List (Nat × AV))
 | [] => some []
 | (i, x) :: l => match force (s.ev x) with
  | none => none
  | some v => match forceParts s l with
   | none => none
   | some r => some ((i, v) :: r)
theorem forceParts_eq (s : St) : ∀ (l : List (Nat × Operand)) (r : List (Nat × AV)), forceParts s l = some r → evParts s l = r
 | [], r, h => by simp [forceParts] at h; subst h; rfl
 | (i, x) :: l, r, h => by
  simp only [forceParts] at h
  cases h1 : force (s.ev x) with
  | none => simp [h1] at h
  | some v =>
   cases h2 : forceParts s l with
   | none => simp [h1, h2] at h
   | some q =>
    simp [h1, h2] at h
    subst h
    simp [evParts, forceParts_eq s l q h2, force_eq h1]
def forceL (s : St) : List Operand → Option (List AV)
 | [] => some []
 | x :: l => match force (s.ev x) with
  | none => none
  | some v => match forceL s l with
   | none => none
   | some r => some (v :: r)
theorem forceL_eq (s : St) : ∀ (l : List Operand) (r : List AV), forceL s l = some r → l.map s.ev = r
 | [], r, h => by simp [forceL] at h; subst h; rfl
 | x :: l, r, h => by
  simp only [forceL] at h
  cases h1 : force (s.ev x) with
  | none => simp [h1] at h
  | some v =>
   cases h2 : forceL s l with
   | none => simp [h1, h2] at h
   | some q =>
    simp [h1, h2] at h
    subst h
    simp [forceL_eq s l q h2, force_eq h1]
def getL : List AV → Nat → Option AV
 | [], _ => none
 | x :: _, 0 => force x
 | _ :: l, n + 1 => getL l n
theorem getL_eq : ∀ (l : List AV) (n : Nat) (x : AV), getL l n = some x → l[n]? = some x
 | [], n, x, h => by simp [getL] at h
 | y :: l, 0, x, h => by simp only [getL] at h; simp [force_eq h]
 | y :: l, n + 1, x, h => by simp only [getL] at h; simpa using getL_eq l n x h
def setL : List AV → Nat → AV → Option (List AV)
 | [], _, _ => none
 | _ :: l, 0, v => some (v :: l)
 | x :: l, n + 1, v => match setL l n v with
  | none => none
  | some r => some (x :: r)
theorem setL_eq : ∀ (l : List AV) (n : Nat) (v : AV) (r : List AV), setL l n v = some r → l.set n v = r
 | [], n, v, r, h => by simp [setL] at h
 | y :: l, 0, v, r, h => by simp [setL] at h; subst h; rfl
 | y :: l, n + 1, v, r, h => by
  simp only [setL] at h
  cases h1 : setL l n v with
  | none => simp [h1] at h
  | some q => simp [h1] at h; subst h; simp [setL_eq l n v q h1]
def getF : List (Nat × Nat) → Nat → Option (Nat × Nat)
 | [], _ => none
 | (a, b) :: _, 0 => some (a, b)
 | _ :: l, n + 1 => getF l n
theorem getF_eq : ∀ (l : List (Nat × Nat)) (n : Nat), getF l n = l[n]?
 | [], n => by simp [getF]
 | (a, b) :: l, 0 => by simp [getF]
 | y :: l, n + 1 => by simp only [getF]; rw [getF_eq l n]; simp
def kEq : IntKind → IntKind → Bool
 | .i8, .i8 | .i16, .i16 | .i32, .i32 | .i64, .i64 | .u8, .u8 | .u16, .u16 | .u32, .u32 | .u64, .u64 => true
 | _, _ => false
theorem kEq_eq {a b : IntKind} (h : kEq a b = true) : a = b := by cases a <;> cases b <;> first | rfl | (simp [kEq] at h)
def natLt (i : Int) (n : Nat) : Option Nat := match i with
 | .ofNat k => match Nat.blt k n with
  | true => some k
  | false => none
 | .negSucc _ => none
theorem natLt_spec {i : Int} {n k : Nat} (h : natLt i n = some k) : 0 ≤ i ∧ i < n ∧ i.toNat = k := by
 unfold natLt at h
 split at h
 ·rename_i q
  cases hb : Nat.blt q n with
  | false => simp [hb] at h
  | true =>
   simp [hb] at h
   subst h
   have : q < n := by simpa using hb
   refine ⟨by simp, by simp; omega, by simp⟩
 ·cases h
def posI : Int → Bool
 | .ofNat k => Nat.blt 0 k
 | .negSucc _ => false
theorem posI_ne {i : Int} (h : posI i = true) : i ≠ 0 ∧ 0 ≤ i := by
 cases i with
 | ofNat k =>
  have : 0 < k := by simpa [posI] using h
  exact ⟨by simp; omega, by simp⟩
 | negSucc k => simp [posI] at h
def val (v : AV) : Eff := ⟨v, [], [], []⟩
def aload (tt : TT) (T : Nat) (s : St) (p : AV) : Option Eff :=
 match lk T tt with
 | none => none
 | some D => match p with
  | .vp cs => match rd D cs 0 with
   | some v => some (val v)
   | none => none
  | .ref b i off => match lk b s.m with
   | some (some k) => match getL k.xs i with
    | some e => match rd D e.cells off with
     | some v => some ⟨v, [], [b], []⟩
     | none => none
    | none => none
   | _ => none
  | _ => none
def astore (tt : TT) (T : Nat) (s : St) (p v : AV) : Option Eff :=
 match lk T tt with
 | none => none
 | some D => match p with
  | .ref b i off => match lk b s.m with
   | some (some ⟨ty, esz, xs⟩) => match getL xs i with
    | some e => match v with
     | .bot => none
     | v => match Nat.beq v.cells.length D.size && v.cells.all AV.cellish with
      | false => none
      | true => match upd e off v.cells with
       | none => none
       | some e' => match setL xs i e' with
        | none => none
        | some xs' => some ⟨.tup [], [(b, some ⟨ty, esz, xs'⟩)], [b], []⟩
    | none => none
   | _ => none
  | _ => none
def afield (tt : TT) (t j : Nat) (p : AV) : Option Eff :=
 match lk t tt with
 | none => none
 | some D => match D.k with
  | .struct fs => match getF fs j with
   | none => none
   | some (fo, fz) => match Nat.blt 0 fz with
    | false => none
    | true => match p with
     | .ref b i off => some (val (.ref b i (off + fo)))
     | .vp cs => match dropC cs fo with
      | some l => some (val (.vp l))
      | none => none
     | _ => none
  | _ => none
def aindex (tt : TT) (t : Nat) (s : St) (p ix : AV) : Option Eff :=
 match lk t tt with
 | none => none
 | some D => match ix with
  | .sc (.int _ i) => match D.k with
   | .slice e => match lk e tt with
    | none => none
    | some E => match p with
     | .sl xs => match natLt i xs.length with
      | none => none
      | some n => match getL xs n with
       | none => none
       | some ev => match Nat.beq ev.cells.length E.size with
        | true => some (val (.vp ev.cells))
        | false => none
     | .arr b off len => match natLt i len with
      | none => none
      | some n => match lk b s.m with
       | some (some k) => match Nat.beq k.esz E.size with
        | true => some ⟨.ref b (off + n) 0, [], [b], []⟩
        | false => none
       | _ => none
     | _ => none
   | .array n e => match lk e tt with
    | none => none
    | some E => match natLt i n with
     | none => none
     | some q => match p with
      | .ref b j off => some (val (.ref b j (off + q * E.size)))
      | .vp cs => match dropC cs (q * E.size) with
       | some l => some (val (.vp l))
       | none => none
      | _ => none
   | _ => none
  | _ => none
def abuild (tt : TT) (t : Nat) (s : St) (parts : Array (Nat × Operand)) : Option Eff :=
 match lk t tt with
 | none => none
 | some D => match forceParts s parts.toList with
  | none => none
  | some ps => match D.k with
   | .struct fs => match posSizes fs with
    | false => none
    | true => match afill (fun j => fs[j]?) D.zero.cells ps with
     | some l => some (val (.agg l))
     | none => none
   | .array _ e => match lk e tt with
    | none => none
    | some E => match afill (fun j => some (j * E.size, E.size)) D.zero.cells ps with
     | some l => some (val (.agg l))
     | none => none
   | _ => none
def abuildSlice (tt : TT) (t len : Nat) (s : St) (parts : Array (Nat × Operand)) (dst : Option Nat) : Option Eff :=
 match dst with
 | none => none
 | some d => match lk t tt with
  | none => none
  | some D => match D.k with
   | .slice e => match lk e tt with
    | none => none
    | some E => match Nat.blt 0 E.size && Nat.ble (len * E.size) 16777216 with
     | false => none
     | true => match forceParts s parts.toList with
      | none => none
      | some ps => match afill (fun j => some (j * E.size, E.size)) (zerosL E.zero.cells len) ps with
       | none => none
       | some l => match group E.k.isAgg E.size len l with
        | none => none
        | some xs => some ⟨.arr d 0 len, [(d, some ⟨e, E.size, xs⟩)], [], [d]⟩
   | _ => none
def abin (op : BinOp) (x y : AV) : Option Eff :=
 match x, y with
 | .sc (.int k a), .sc (.int k' b) => match op with
  | .shl => match posI b with
   | true => some (val (.sc (.int k (k.wrap (a * 2 ^ (min b.toNat k.bits))))))
   | false => none
  | .shr => match posI b with
   | true => some (val (.sc (.int k (a.fdiv (2 ^ (min b.toNat k.bits))))))
   | false => none
  | op => match kEq k k' with
   | false => none
   | true => match op with
    | .quo => match posI b with
     | true => some (val (.sc (.int k (k.wrap (a.tdiv b)))))
     | false => none
    | .rem => match posI b with
     | true => some (val (.sc (.int k (a.tmod b))))
     | false => none
    | op => match intBin op k a b with
     | some v => some (val (.sc v))
     | none => none
 | .sc (.string a), .sc (.string b) => match strBin op a b with
  | some v => some (val (.sc v))
  | none => none
 | _, _ => none
def abuiltin (tt : TT) (b : Builtin) (args : List AV) (tys : List Nat) : Option Eff :=
 match b, args, tys with
 | .len, [v], [t] => match lk t tt with
  | none => none
  | some D => match D.k with
   | .slice _ => match lenAV v with
    | some n => some (val (.sc (.int .i64 n)))
    | none => none
   | .str => match v with
    | .sc (.string st) => some (val (.sc (.int .i64 st.size)))
    | _ => none
   | .array n _ => some (val (.sc (.int .i64 n)))
   | _ => none
 | .max, [.sc (.int k m), .sc (.int k' n)], _ => match kEq k k' with
  | true => some (val (.sc (.int k (max m n))))
  | false => none
 | .min, [.sc (.int k m), .sc (.int k' n)], _ => match kEq k k' with
  | true => some (val (.sc (.int k (min m n))))
  | false => none
 | _, _, _ => none
def aop (tt : TT) (o : Oper) (s : St) : Option Eff :=
 match o.op with
 | .move x => match force (s.ev x) with
  | some v => some (val v)
  | none => none
 | .assign x => match force (s.ev x) with
  | some v => some (val v)
  | none => none
 | .pick x y z => match s.ev x with
  | .sc (.bool true) => match force (s.ev y) with
   | some v => some (val v)
   | none => none
  | .sc (.bool false) => match force (s.ev z) with
   | some v => some (val v)
   | none => none
  | _ => none
 | .alloc T => match o.dst with
  | none => none
  | some d => match lk T tt with
   | none => none
   | some ⟨_, size, _, zero⟩ => match Nat.blt 0 size with
    | true => some ⟨.ref d 0 0, [(d, some ⟨T, size, [zero]⟩)], [], [d]⟩
    | false => none
 | .box T x => match o.dst with
  | none => none
  | some d => match lk T tt with
   | none => none
   | some ⟨_, size, _, _⟩ => match s.ev x with
    | .bot => none
    | v => match Nat.beq v.cells.length size && Nat.blt 0 size with
     | true => match force v with
      | some v => some ⟨.ref d 0 0, [(d, some ⟨T, size, [v]⟩)], [], [d]⟩
      | none => none
     | false => none
 | .load T x => aload tt T s (s.ev x)
 | .store T x y => astore tt T s (s.ev x) (s.ev y)
 | .fieldAddr t x j => afield tt t j (s.ev x)
 | .indexAddr t x y => aindex tt t s (s.ev x) (s.ev y)
 | .build t parts => abuild tt t s parts
 | .buildSlice t len parts => abuildSlice tt t len s parts o.dst
 | .extract x i => match s.ev x with
  | .tup cs => match getL cs i with
   | some v => some (val v)
   | none => none
  | _ => none
 | .binOp op _ x y _ => abin op (s.ev x) (s.ev y)
 | .unOp op _ x => match s.ev x with
  | .sc v => match unVal op v with
   | some u => some (val (.sc u))
   | none => none
  | _ => none
 | .convert t1 t2 x => match lk t1 tt, lk t2 tt, s.ev x with
  | some D1, some D2, .sc (.int _ n) => match D1.k, D2.k with
   | .int _, .int k2 => some (val (.sc (.int k2 (k2.wrap n))))
   | _, _ => none
  | _, _, _ => none
 | .index t x y => match lk t tt with
  | none => none
  | some D => match D.k, s.ev x, s.ev y with
   | .array n e, .agg cs, .sc (.int _ i) => match lk e tt with
    | none => none
    | some E => match natLt i n with
     | none => none
     | some q => match rd E cs (q * E.size) with
      | some v => some (val v)
      | none => none
   | _, _, _ => none
 | .makeFunc fn fs cs => match fn with
  | .func f => match forceL s fs.toList with
   | none => none
   | some l1 => match forceL s cs.toList with
    | none => none
    | some l2 => some (val (.clo f l1 l2))
  | _ => none
 | .call c => match c.callee with
  | .builtin b => match forceL s c.args.toList with
   | none => none
   | some l => abuiltin tt b l c.argTypes.toList
  | _ => none
 | _ => none
end Go.Ab
