/- Ty: what functions of the program compute (written by mod.py). -/
import Derived.Test.YtlkmdaojdongjaaSh
import Derived.KernelRfl
namespace Go.Proofs.Ytlkmdaojdongjaa
open Go Go.Ab
set_option linter.unusedSimpArgs false
set_option linter.unusedVariables false
set_option maxRecDepth 20000

abbrev W64 (n : Int) : Int := IntKind.i64.wrap n
abbrev WU64 (n : Int) : Int := IntKind.u64.wrap n
abbrev WU8 (n : Int) : Int := IntKind.u8.wrap n
abbrev U64 (n : Int) : AV := .sc (.int .u64 n)
abbrev U8 (n : Int) : AV := .sc (.int .u8 n)
abbrev bAnd (k : IntKind) (a b : Int) : Int := k.wrap (BitVec.ofInt k.bits a &&& BitVec.ofInt k.bits b).toNat
abbrev bOr (k : IntKind) (a b : Int) : Int := k.wrap (BitVec.ofInt k.bits a ||| BitVec.ofInt k.bits b).toNat
abbrev bXor (k : IntKind) (a b : Int) : Int := k.wrap (BitVec.ofInt k.bits a ^^^ BitVec.ofInt k.bits b).toNat
abbrev bNot (k : IntKind) (n : Int) : Int := k.wrap (BitVec.ofInt k.bits (if k.signed then -1 else k.max) ^^^ BitVec.ofInt k.bits n).toNat
abbrev bShl (k : IntKind) (a b : Int) : Int := k.wrap (a * 2 ^ (min b.toNat k.bits))
abbrev bShr (k : IntKind) (a b : Int) : Int := a.fdiv (2 ^ (min b.toNat k.bits))
abbrev encL {α : Type} (enc : α → AV) (l : List α) : AV := .sl (l.map enc)
/-- Equality of structs, cell by cell. -/
def eqV {α : Type} (enc : α → AV) (a b : α) : Bool := eqA (enc a).cells (enc b).cells
theorem c_bool {cs : List AV} (h : CellsOf .bool cs) : ∃ n, cs = [B n] ∧ True := by
  rw [CellsOf] at h
  obtain ⟨n, rfl⟩ := h
  exact ⟨n, rfl, trivial⟩
theorem c_str {cs : List AV} (h : CellsOf .str cs) : ∃ s : ByteArray, cs = [S s] ∧ s.size ≤ 9223372036854775807 := by
  rw [CellsOf] at h
  obtain ⟨s, rfl, h1⟩ := h
  exact ⟨s, rfl, h1⟩
theorem c_u8 {cs : List AV} (h : CellsOf (.int .u8) cs) : ∃ n, cs = [U8 n] ∧ (0 ≤ n ∧ n < 256) := by
  rw [CellsOf] at h
  obtain ⟨n, rfl, h1, h2⟩ := h
  refine ⟨n, rfl, ?_⟩
  have a : IntKind.u8.min = 0 := rfl
  have b : IntKind.u8.max = 255 := rfl
  omega
theorem c_u16 {cs : List AV} (h : CellsOf (.int .u16) cs) : ∃ n, cs = [.sc (.int .u16 n)] ∧ (0 ≤ n ∧ n < 65536) := by
  rw [CellsOf] at h
  obtain ⟨n, rfl, h1, h2⟩ := h
  refine ⟨n, rfl, ?_⟩
  have a : IntKind.u16.min = 0 := rfl
  have b : IntKind.u16.max = 65535 := rfl
  omega
theorem c_u64 {cs : List AV} (h : CellsOf (.int .u64) cs) : ∃ n, cs = [U64 n] ∧ (0 ≤ n ∧ n < 18446744073709551616) := by
  rw [CellsOf] at h
  obtain ⟨n, rfl, h1, h2⟩ := h
  refine ⟨n, rfl, ?_⟩
  have a : IntKind.u64.min = 0 := rfl
  have b : IntKind.u64.max = 18446744073709551615 := rfl
  omega
theorem el_int {ecs : List AV} (h : CellsOf (.int .i64) ecs) : ∃ d, (Sh.int .i64).pack ecs = I d ∧ I64 d := by
  obtain ⟨n, rfl, h1⟩ := c_int h
  exact ⟨n, rfl, h1⟩
theorem el_str {ecs : List AV} (h : CellsOf .str ecs) : ∃ d : ByteArray, Sh.str.pack ecs = S d ∧ d.size ≤ 9223372036854775807 := by
  obtain ⟨n, rfl, h1⟩ := c_str h
  exact ⟨n, rfl, h1⟩
theorem el_sp {ecs : List AV} (h : CellsOf shSp ecs) : ∃ d : Sp, shSp.pack ecs = encSp d ∧ d.ok := by
  obtain ⟨s, rfl, h1⟩ := c_sp h
  exact ⟨s, rfl, h1⟩
theorem el_bx {ecs : List AV} (h : CellsOf shBx ecs) : ∃ d : Bx, shBx.pack ecs = encBx d ∧ d.ok := by
  obtain ⟨s, rfl, h1⟩ := c_bx h
  exact ⟨s, rfl, h1⟩
theorem el_df {ecs : List AV} (h : CellsOf shDf ecs) : ∃ d : Df, shDf.pack ecs = encDf d ∧ d.ok := by
  obtain ⟨s, rfl, h1⟩ := c_df h
  exact ⟨s, rfl, h1⟩
theorem c_slice {α : Type} {enc : α → AV} {ok : α → Prop} {e : Sh} (hel : ∀ ecs, CellsOf e ecs → ∃ d, e.pack ecs = enc d ∧ ok d) {cs : List AV} (h : CellsOf (.slice e) cs) : ∃ l : List α, cs = [encL enc l] ∧ (l.length ≤ 9223372036854775807 ∧ ∀ d, d ∈ l → ok d) := by
  rw [CellsOf] at h
  obtain ⟨xs, rfl, h1, h2⟩ := h
  obtain ⟨l, rfl, h3⟩ := of_list (enc := enc) (ok := ok) (xs := xs) fun x hx => by
    obtain ⟨ecs, rfl, hc⟩ := h2 x hx
    exact hel ecs hc
  exact ⟨l, rfl, by rw [List.length_map] at h1; exact h1, h3⟩
theorem el_slice {α : Type} {enc : α → AV} {ok : α → Prop} {e : Sh} (hel : ∀ ecs, CellsOf e ecs → ∃ d, e.pack ecs = enc d ∧ ok d) {ecs : List AV} (h : CellsOf (.slice e) ecs) : ∃ d : List α, (Sh.slice e).pack ecs = encL enc d ∧ (d.length ≤ 9223372036854775807 ∧ ∀ x, x ∈ d → ok x) := by
  obtain ⟨l, rfl, h1⟩ := c_slice hel h
  exact ⟨l, rfl, h1⟩
theorem of_c {α : Type} {enc : α → AV} {ok : α → Prop} {s : Sh} (h : ∀ cs, CellsOf s cs → ∃ d, s.pack cs = enc d ∧ ok d) {a : AV} (ha : Of s a) : ∃ d, a = enc d ∧ ok d := by
  obtain ⟨cs, rfl, hc⟩ := ha
  exact h cs hc
theorem c_arr2 {α : Type} {enc : α → AV} {ok : α → Prop} {e : Sh} (h : ∀ cs, CellsOf e cs → ∃ d, cs = [enc d] ∧ ok d) {cs : List AV} (hc : CellsOf (.struct [e, e]) cs) : ∃ d : α × α, cs = [enc d.1, enc d.2] ∧ ok d.1 ∧ ok d.2 := by
  rw [CellsOf, CellsAll] at hc
  obtain ⟨_, _, rfl, q1, hc⟩ := hc
  rw [CellsAll] at hc
  obtain ⟨_, _, rfl, q2, hc⟩ := hc
  rw [CellsAll] at hc
  subst hc
  obtain ⟨a, rfl, ha⟩ := h _ q1
  obtain ⟨b, rfl, hb⟩ := h _ q2
  exact ⟨(a, b), rfl, ha, hb⟩
theorem c_arr3 {α : Type} {enc : α → AV} {ok : α → Prop} {e : Sh} (h : ∀ cs, CellsOf e cs → ∃ d, cs = [enc d] ∧ ok d) {cs : List AV} (hc : CellsOf (.struct [e, e, e]) cs) : ∃ d : α × α × α, cs = [enc d.1, enc d.2.1, enc d.2.2] ∧ ok d.1 ∧ ok d.2.1 ∧ ok d.2.2 := by
  rw [CellsOf, CellsAll] at hc
  obtain ⟨_, _, rfl, q1, hc⟩ := hc
  rw [CellsAll] at hc
  obtain ⟨_, _, rfl, q2, hc⟩ := hc
  rw [CellsAll] at hc
  obtain ⟨_, _, rfl, q3, hc⟩ := hc
  rw [CellsAll] at hc
  subst hc
  obtain ⟨a, rfl, ha⟩ := h _ q1
  obtain ⟨b, rfl, hb⟩ := h _ q2
  obtain ⟨c, rfl, hc⟩ := h _ q3
  exact ⟨(a, b, c), rfl, ha, hb, hc⟩
theorem c_arr4 {α : Type} {enc : α → AV} {ok : α → Prop} {e : Sh} (h : ∀ cs, CellsOf e cs → ∃ d, cs = [enc d] ∧ ok d) {cs : List AV} (hc : CellsOf (.struct [e, e, e, e]) cs) : ∃ d : α × α × α × α, cs = [enc d.1, enc d.2.1, enc d.2.2.1, enc d.2.2.2] ∧ ok d.1 ∧ ok d.2.1 ∧ ok d.2.2.1 ∧ ok d.2.2.2 := by
  rw [CellsOf, CellsAll] at hc
  obtain ⟨_, _, rfl, q1, hc⟩ := hc
  rw [CellsAll] at hc
  obtain ⟨_, _, rfl, q2, hc⟩ := hc
  rw [CellsAll] at hc
  obtain ⟨_, _, rfl, q3, hc⟩ := hc
  rw [CellsAll] at hc
  obtain ⟨_, _, rfl, q4, hc⟩ := hc
  rw [CellsAll] at hc
  subst hc
  obtain ⟨a, rfl, ha⟩ := h _ q1
  obtain ⟨b, rfl, hb⟩ := h _ q2
  obtain ⟨c, rfl, hc⟩ := h _ q3
  obtain ⟨d, rfl, hd⟩ := h _ q4
  exact ⟨(a, b, c, d), rfl, ha, hb, hc, hd⟩
theorem el_bool {ecs : List AV} (h : CellsOf .bool ecs) : ∃ d, Sh.bool.pack ecs = B d ∧ True := by
  obtain ⟨n, rfl, h1⟩ := c_bool h
  exact ⟨n, rfl, h1⟩
theorem el_u8 {ecs : List AV} (h : CellsOf (.int .u8) ecs) : ∃ d, (Sh.int .u8).pack ecs = U8 d ∧ (0 ≤ d ∧ d < 256) := by
  obtain ⟨n, rfl, h1⟩ := c_u8 h
  exact ⟨n, rfl, h1⟩
theorem el_u16 {ecs : List AV} (h : CellsOf (.int .u16) ecs) : ∃ d, (Sh.int .u16).pack ecs = .sc (.int .u16 d) ∧ (0 ≤ d ∧ d < 65536) := by
  obtain ⟨n, rfl, h1⟩ := c_u16 h
  exact ⟨n, rfl, h1⟩
theorem el_u64 {ecs : List AV} (h : CellsOf (.int .u64) ecs) : ∃ d, (Sh.int .u64).pack ecs = U64 d ∧ (0 ≤ d ∧ d < 18446744073709551616) := by
  obtain ⟨n, rfl, h1⟩ := c_u64 h
  exact ⟨n, rfl, h1⟩
theorem el_arr2 {α : Type} {enc : α → AV} {ok : α → Prop} {e : Sh} (h : ∀ cs, CellsOf e cs → ∃ d, cs = [enc d] ∧ ok d) {cs : List AV} (hc : CellsOf (.struct [e, e]) cs) : ∃ d : α × α, (Sh.struct [e, e]).pack cs = .agg [enc d.1, enc d.2] ∧ ok d.1 ∧ ok d.2 := by
  obtain ⟨d, rfl, h1⟩ := c_arr2 h hc
  exact ⟨d, rfl, h1⟩
theorem el_arr3 {α : Type} {enc : α → AV} {ok : α → Prop} {e : Sh} (h : ∀ cs, CellsOf e cs → ∃ d, cs = [enc d] ∧ ok d) {cs : List AV} (hc : CellsOf (.struct [e, e, e]) cs) : ∃ d : α × α × α, (Sh.struct [e, e, e]).pack cs = .agg [enc d.1, enc d.2.1, enc d.2.2] ∧ ok d.1 ∧ ok d.2.1 ∧ ok d.2.2 := by
  obtain ⟨d, rfl, h1⟩ := c_arr3 h hc
  exact ⟨d, rfl, h1⟩
theorem el_arr4 {α : Type} {enc : α → AV} {ok : α → Prop} {e : Sh} (h : ∀ cs, CellsOf e cs → ∃ d, cs = [enc d] ∧ ok d) {cs : List AV} (hc : CellsOf (.struct [e, e, e, e]) cs) : ∃ d : α × α × α × α, (Sh.struct [e, e, e, e]).pack cs = .agg [enc d.1, enc d.2.1, enc d.2.2.1, enc d.2.2.2] ∧ ok d.1 ∧ ok d.2.1 ∧ ok d.2.2.1 ∧ ok d.2.2.2 := by
  obtain ⟨d, rfl, h1⟩ := c_arr4 h hc
  exact ⟨d, rfl, h1⟩

structure Tsawmilllaw05_Op where
  Kind : Int
  Low : Int
  High : Int
  Most : Int
  deriving DecidableEq
def encTsawmilllaw05_Op (s : Tsawmilllaw05_Op) : AV := .agg [(U8 s.Kind), (I s.Low), (I s.High), (I s.Most)]
def Tsawmilllaw05_Op.ok (s : Tsawmilllaw05_Op) : Prop := (0 ≤ s.Kind ∧ s.Kind < 256) ∧ I64 s.Low ∧ I64 s.High ∧ I64 s.Most
def shTsawmilllaw05_Op : Sh := .struct [(.int .u8), (.int .i64), (.int .i64), (.int .i64)]
theorem c_Tsawmilllaw05_Op {cs : List AV} (h : CellsOf shTsawmilllaw05_Op cs) : ∃ s : Tsawmilllaw05_Op, cs = [(U8 s.Kind), (I s.Low), (I s.High), (I s.Most)] ∧ s.ok := by
  unfold shTsawmilllaw05_Op at h
  rw [CellsOf] at h
  rw [CellsAll] at h
  obtain ⟨_, _, rfl, q0, h⟩ := h
  rw [CellsAll] at h
  obtain ⟨_, _, rfl, q1, h⟩ := h
  rw [CellsAll] at h
  obtain ⟨_, _, rfl, q2, h⟩ := h
  rw [CellsAll] at h
  obtain ⟨_, _, rfl, q3, h⟩ := h
  rw [CellsAll] at h
  subst h
  obtain ⟨s0, rfl, k0⟩ := c_u8 q0
  obtain ⟨s1, rfl, k1⟩ := c_int q1
  obtain ⟨s2, rfl, k2⟩ := c_int q2
  obtain ⟨s3, rfl, k3⟩ := c_int q3
  exact ⟨⟨s0, s1, s2, s3⟩, rfl, k0, k1, k2, k3⟩
theorem of_Tsawmilllaw05_Op {a : AV} (h : Of shTsawmilllaw05_Op a) : ∃ s : Tsawmilllaw05_Op, a = encTsawmilllaw05_Op s ∧ s.ok := by
  obtain ⟨cs, rfl, h⟩ := h
  obtain ⟨b, rfl, hb⟩ := c_Tsawmilllaw05_Op h
  exact ⟨b, rfl, hb⟩
theorem el_Tsawmilllaw05_Op {ecs : List AV} (h : CellsOf shTsawmilllaw05_Op ecs) : ∃ d : Tsawmilllaw05_Op, (shTsawmilllaw05_Op).pack ecs = encTsawmilllaw05_Op d ∧ d.ok := of_Tsawmilllaw05_Op ⟨ecs, rfl, h⟩
structure Tsawmillref05_Reader where
  S_ : ByteArray
  At : Int
  E : Int
  deriving DecidableEq
def encTsawmillref05_Reader (s : Tsawmillref05_Reader) : AV := .agg [(S s.S_), (I s.At), (I s.E)]
def Tsawmillref05_Reader.ok (s : Tsawmillref05_Reader) : Prop := s.S_.size ≤ 9223372036854775807 ∧ I64 s.At ∧ I64 s.E
def shTsawmillref05_Reader : Sh := .struct [.str, (.int .i64), (.int .i64)]
theorem c_Tsawmillref05_Reader {cs : List AV} (h : CellsOf shTsawmillref05_Reader cs) : ∃ s : Tsawmillref05_Reader, cs = [(S s.S_), (I s.At), (I s.E)] ∧ s.ok := by
  unfold shTsawmillref05_Reader at h
  rw [CellsOf] at h
  rw [CellsAll] at h
  obtain ⟨_, _, rfl, q0, h⟩ := h
  rw [CellsAll] at h
  obtain ⟨_, _, rfl, q1, h⟩ := h
  rw [CellsAll] at h
  obtain ⟨_, _, rfl, q2, h⟩ := h
  rw [CellsAll] at h
  subst h
  obtain ⟨s0, rfl, k0⟩ := c_str q0
  obtain ⟨s1, rfl, k1⟩ := c_int q1
  obtain ⟨s2, rfl, k2⟩ := c_int q2
  exact ⟨⟨s0, s1, s2⟩, rfl, k0, k1, k2⟩
theorem of_Tsawmillref05_Reader {a : AV} (h : Of shTsawmillref05_Reader a) : ∃ s : Tsawmillref05_Reader, a = encTsawmillref05_Reader s ∧ s.ok := by
  obtain ⟨cs, rfl, h⟩ := h
  obtain ⟨b, rfl, hb⟩ := c_Tsawmillref05_Reader h
  exact ⟨b, rfl, hb⟩
theorem el_Tsawmillref05_Reader {ecs : List AV} (h : CellsOf shTsawmillref05_Reader ecs) : ∃ d : Tsawmillref05_Reader, (shTsawmillref05_Reader).pack ecs = encTsawmillref05_Reader d ∧ d.ok := of_Tsawmillref05_Reader ⟨ecs, rfl, h⟩
structure Tsawmilllaw05_Field where
  Kind : Int
  N : Int
  I_ : Int
  T : ByteArray
  L : (List Int)
  deriving DecidableEq
def encTsawmilllaw05_Field (s : Tsawmilllaw05_Field) : AV := .agg [(U8 s.Kind), (U64 s.N), (I s.I_), (S s.T), ((encL I) s.L)]
def Tsawmilllaw05_Field.ok (s : Tsawmilllaw05_Field) : Prop := (0 ≤ s.Kind ∧ s.Kind < 256) ∧ (0 ≤ s.N ∧ s.N < 18446744073709551616) ∧ I64 s.I_ ∧ s.T.size ≤ 9223372036854775807 ∧ (s.L.length ≤ 9223372036854775807 ∧ ∀ d, d ∈ s.L → I64 d)
def shTsawmilllaw05_Field : Sh := .struct [(.int .u8), (.int .u64), (.int .i64), .str, (.slice (.int .i64))]
theorem c_Tsawmilllaw05_Field {cs : List AV} (h : CellsOf shTsawmilllaw05_Field cs) : ∃ s : Tsawmilllaw05_Field, cs = [(U8 s.Kind), (U64 s.N), (I s.I_), (S s.T), ((encL I) s.L)] ∧ s.ok := by
  unfold shTsawmilllaw05_Field at h
  rw [CellsOf] at h
  rw [CellsAll] at h
  obtain ⟨_, _, rfl, q0, h⟩ := h
  rw [CellsAll] at h
  obtain ⟨_, _, rfl, q1, h⟩ := h
  rw [CellsAll] at h
  obtain ⟨_, _, rfl, q2, h⟩ := h
  rw [CellsAll] at h
  obtain ⟨_, _, rfl, q3, h⟩ := h
  rw [CellsAll] at h
  obtain ⟨_, _, rfl, q4, h⟩ := h
  rw [CellsAll] at h
  subst h
  obtain ⟨s0, rfl, k0⟩ := c_u8 q0
  obtain ⟨s1, rfl, k1⟩ := c_u64 q1
  obtain ⟨s2, rfl, k2⟩ := c_int q2
  obtain ⟨s3, rfl, k3⟩ := c_str q3
  obtain ⟨s4, rfl, k4⟩ := (c_slice (fun _ => el_int)) q4
  exact ⟨⟨s0, s1, s2, s3, s4⟩, rfl, k0, k1, k2, k3, k4⟩
theorem of_Tsawmilllaw05_Field {a : AV} (h : Of shTsawmilllaw05_Field a) : ∃ s : Tsawmilllaw05_Field, a = encTsawmilllaw05_Field s ∧ s.ok := by
  obtain ⟨cs, rfl, h⟩ := h
  obtain ⟨b, rfl, hb⟩ := c_Tsawmilllaw05_Field h
  exact ⟨b, rfl, hb⟩
theorem el_Tsawmilllaw05_Field {ecs : List AV} (h : CellsOf shTsawmilllaw05_Field ecs) : ∃ d : Tsawmilllaw05_Field, (shTsawmilllaw05_Field).pack ecs = encTsawmilllaw05_Field d ∧ d.ok := of_Tsawmilllaw05_Field ⟨ecs, rfl, h⟩
structure Twire_Reader where
  s : ByteArray
  at_ : Int
  e : Int
  deriving DecidableEq
def encTwire_Reader (s : Twire_Reader) : AV := .agg [(S s.s), (I s.at_), (I s.e)]
def Twire_Reader.ok (s : Twire_Reader) : Prop := s.s.size ≤ 9223372036854775807 ∧ I64 s.at_ ∧ I64 s.e
def shTwire_Reader : Sh := .struct [.str, (.int .i64), (.int .i64)]
theorem c_Twire_Reader {cs : List AV} (h : CellsOf shTwire_Reader cs) : ∃ s : Twire_Reader, cs = [(S s.s), (I s.at_), (I s.e)] ∧ s.ok := by
  unfold shTwire_Reader at h
  rw [CellsOf] at h
  rw [CellsAll] at h
  obtain ⟨_, _, rfl, q0, h⟩ := h
  rw [CellsAll] at h
  obtain ⟨_, _, rfl, q1, h⟩ := h
  rw [CellsAll] at h
  obtain ⟨_, _, rfl, q2, h⟩ := h
  rw [CellsAll] at h
  subst h
  obtain ⟨s0, rfl, k0⟩ := c_str q0
  obtain ⟨s1, rfl, k1⟩ := c_int q1
  obtain ⟨s2, rfl, k2⟩ := c_int q2
  exact ⟨⟨s0, s1, s2⟩, rfl, k0, k1, k2⟩
theorem of_Twire_Reader {a : AV} (h : Of shTwire_Reader a) : ∃ s : Twire_Reader, a = encTwire_Reader s ∧ s.ok := by
  obtain ⟨cs, rfl, h⟩ := h
  obtain ⟨b, rfl, hb⟩ := c_Twire_Reader h
  exact ⟨b, rfl, hb⟩
theorem el_Twire_Reader {ecs : List AV} (h : CellsOf shTwire_Reader ecs) : ∃ d : Twire_Reader, (shTwire_Reader).pack ecs = encTwire_Reader d ∧ d.ok := of_Twire_Reader ⟨ecs, rfl, h⟩

end Go.Proofs.Ytlkmdaojdongjaa
