/- Ty: what functions of the program compute (written by mod.py). -/
import Derived.Test.YtjdgaclkcmjjcaaSh
import Derived.KernelRfl
namespace Go.Proofs.Ytjdgaclkcmjjcaa
open Go Go.Ab
set_option linter.unusedSimpArgs false
set_option linter.unusedVariables false
set_option maxRecDepth 20000

abbrev W64 (n : Int) : Int := IntKind.i64.wrap n
abbrev WU64 (n : Int) : Int := IntKind.u64.wrap n
abbrev WU8 (n : Int) : Int := IntKind.u8.wrap n
abbrev U64 (n : Int) : AV := .sc (.int .u64 n)
abbrev U8 (n : Int) : AV := .sc (.int .u8 n)
abbrev bAnd (k : IntKind) (a b : Int) : Int := k.wrap (BitVec.ofInt k.bits a &&& BitVec.ofInt k.bits b).toNat
abbrev bOr (k : IntKind) (a b : Int) : Int := k.wrap (BitVec.ofInt k.bits a ||| BitVec.ofInt k.bits b).toNat
abbrev bXor (k : IntKind) (a b : Int) : Int := k.wrap (BitVec.ofInt k.bits a ^^^ BitVec.ofInt k.bits b).toNat
abbrev bNot (k : IntKind) (n : Int) : Int := k.wrap (BitVec.ofInt k.bits (if k.signed then -1 else k.max) ^^^ BitVec.ofInt k.bits n).toNat
abbrev bShl (k : IntKind) (a b : Int) : Int := k.wrap (a * 2 ^ (min b.toNat k.bits))
abbrev bShr (k : IntKind) (a b : Int) : Int := a.fdiv (2 ^ (min b.toNat k.bits))
abbrev encL {α : Type} (enc : α → AV) (l : List α) : AV := .sl (l.map enc)
/-- Equality of structs, cell by cell. -/
def eqV {α : Type} (enc : α → AV) (a b : α) : Bool := eqA (enc a).cells (enc b).cells
theorem c_bool {cs : List AV} (h : CellsOf .bool cs) : ∃ n, cs = [B n] ∧ True := by
  rw [CellsOf] at h
  obtain ⟨n, rfl⟩ := h
  exact ⟨n, rfl, trivial⟩
theorem c_str {cs : List AV} (h : CellsOf .str cs) : ∃ s : ByteArray, cs = [S s] ∧ s.size ≤ 9223372036854775807 := by
  rw [CellsOf] at h
  obtain ⟨s, rfl, h1⟩ := h
  exact ⟨s, rfl, h1⟩
theorem c_u8 {cs : List AV} (h : CellsOf (.int .u8) cs) : ∃ n, cs = [U8 n] ∧ (0 ≤ n ∧ n < 256) := by
  rw [CellsOf] at h
  obtain ⟨n, rfl, h1, h2⟩ := h
  refine ⟨n, rfl, ?_⟩
  have a : IntKind.u8.min = 0 := rfl
  have b : IntKind.u8.max = 255 := rfl
  omega
theorem c_u16 {cs : List AV} (h : CellsOf (.int .u16) cs) : ∃ n, cs = [.sc (.int .u16 n)] ∧ (0 ≤ n ∧ n < 65536) := by
  rw [CellsOf] at h
  obtain ⟨n, rfl, h1, h2⟩ := h
  refine ⟨n, rfl, ?_⟩
  have a : IntKind.u16.min = 0 := rfl
  have b : IntKind.u16.max = 65535 := rfl
  omega
theorem c_u64 {cs : List AV} (h : CellsOf (.int .u64) cs) : ∃ n, cs = [U64 n] ∧ (0 ≤ n ∧ n < 18446744073709551616) := by
  rw [CellsOf] at h
  obtain ⟨n, rfl, h1, h2⟩ := h
  refine ⟨n, rfl, ?_⟩
  have a : IntKind.u64.min = 0 := rfl
  have b : IntKind.u64.max = 18446744073709551615 := rfl
  omega
theorem el_int {ecs : List AV} (h : CellsOf (.int .i64) ecs) : ∃ d, (Sh.int .i64).pack ecs = I d ∧ I64 d := by
  obtain ⟨n, rfl, h1⟩ := c_int h
  exact ⟨n, rfl, h1⟩
theorem el_str {ecs : List AV} (h : CellsOf .str ecs) : ∃ d : ByteArray, Sh.str.pack ecs = S d ∧ d.size ≤ 9223372036854775807 := by
  obtain ⟨n, rfl, h1⟩ := c_str h
  exact ⟨n, rfl, h1⟩
theorem el_sp {ecs : List AV} (h : CellsOf shSp ecs) : ∃ d : Sp, shSp.pack ecs = encSp d ∧ d.ok := by
  obtain ⟨s, rfl, h1⟩ := c_sp h
  exact ⟨s, rfl, h1⟩
theorem el_bx {ecs : List AV} (h : CellsOf shBx ecs) : ∃ d : Bx, shBx.pack ecs = encBx d ∧ d.ok := by
  obtain ⟨s, rfl, h1⟩ := c_bx h
  exact ⟨s, rfl, h1⟩
theorem el_df {ecs : List AV} (h : CellsOf shDf ecs) : ∃ d : Df, shDf.pack ecs = encDf d ∧ d.ok := by
  obtain ⟨s, rfl, h1⟩ := c_df h
  exact ⟨s, rfl, h1⟩
theorem c_slice {α : Type} {enc : α → AV} {ok : α → Prop} {e : Sh} (hel : ∀ ecs, CellsOf e ecs → ∃ d, e.pack ecs = enc d ∧ ok d) {cs : List AV} (h : CellsOf (.slice e) cs) : ∃ l : List α, cs = [encL enc l] ∧ (l.length ≤ 9223372036854775807 ∧ ∀ d, d ∈ l → ok d) := by
  rw [CellsOf] at h
  obtain ⟨xs, rfl, h1, h2⟩ := h
  obtain ⟨l, rfl, h3⟩ := of_list (enc := enc) (ok := ok) (xs := xs) fun x hx => by
    obtain ⟨ecs, rfl, hc⟩ := h2 x hx
    exact hel ecs hc
  exact ⟨l, rfl, by rw [List.length_map] at h1; exact h1, h3⟩
theorem el_slice {α : Type} {enc : α → AV} {ok : α → Prop} {e : Sh} (hel : ∀ ecs, CellsOf e ecs → ∃ d, e.pack ecs = enc d ∧ ok d) {ecs : List AV} (h : CellsOf (.slice e) ecs) : ∃ d : List α, (Sh.slice e).pack ecs = encL enc d ∧ (d.length ≤ 9223372036854775807 ∧ ∀ x, x ∈ d → ok x) := by
  obtain ⟨l, rfl, h1⟩ := c_slice hel h
  exact ⟨l, rfl, h1⟩
theorem of_c {α : Type} {enc : α → AV} {ok : α → Prop} {s : Sh} (h : ∀ cs, CellsOf s cs → ∃ d, s.pack cs = enc d ∧ ok d) {a : AV} (ha : Of s a) : ∃ d, a = enc d ∧ ok d := by
  obtain ⟨cs, rfl, hc⟩ := ha
  exact h cs hc
theorem c_arr2 {α : Type} {enc : α → AV} {ok : α → Prop} {e : Sh} (h : ∀ cs, CellsOf e cs → ∃ d, cs = [enc d] ∧ ok d) {cs : List AV} (hc : CellsOf (.struct [e, e]) cs) : ∃ d : α × α, cs = [enc d.1, enc d.2] ∧ ok d.1 ∧ ok d.2 := by
  rw [CellsOf, CellsAll] at hc
  obtain ⟨_, _, rfl, q1, hc⟩ := hc
  rw [CellsAll] at hc
  obtain ⟨_, _, rfl, q2, hc⟩ := hc
  rw [CellsAll] at hc
  subst hc
  obtain ⟨a, rfl, ha⟩ := h _ q1
  obtain ⟨b, rfl, hb⟩ := h _ q2
  exact ⟨(a, b), rfl, ha, hb⟩
theorem c_arr3 {α : Type} {enc : α → AV} {ok : α → Prop} {e : Sh} (h : ∀ cs, CellsOf e cs → ∃ d, cs = [enc d] ∧ ok d) {cs : List AV} (hc : CellsOf (.struct [e, e, e]) cs) : ∃ d : α × α × α, cs = [enc d.1, enc d.2.1, enc d.2.2] ∧ ok d.1 ∧ ok d.2.1 ∧ ok d.2.2 := by
  rw [CellsOf, CellsAll] at hc
  obtain ⟨_, _, rfl, q1, hc⟩ := hc
  rw [CellsAll] at hc
  obtain ⟨_, _, rfl, q2, hc⟩ := hc
  rw [CellsAll] at hc
  obtain ⟨_, _, rfl, q3, hc⟩ := hc
  rw [CellsAll] at hc
  subst hc
  obtain ⟨a, rfl, ha⟩ := h _ q1
  obtain ⟨b, rfl, hb⟩ := h _ q2
  obtain ⟨c, rfl, hc⟩ := h _ q3
  exact ⟨(a, b, c), rfl, ha, hb, hc⟩
theorem c_arr4 {α : Type} {enc : α → AV} {ok : α → Prop} {e : Sh} (h : ∀ cs, CellsOf e cs → ∃ d, cs = [enc d] ∧ ok d) {cs : List AV} (hc : CellsOf (.struct [e, e, e, e]) cs) : ∃ d : α × α × α × α, cs = [enc d.1, enc d.2.1, enc d.2.2.1, enc d.2.2.2] ∧ ok d.1 ∧ ok d.2.1 ∧ ok d.2.2.1 ∧ ok d.2.2.2 := by
  rw [CellsOf, CellsAll] at hc
  obtain ⟨_, _, rfl, q1, hc⟩ := hc
  rw [CellsAll] at hc
  obtain ⟨_, _, rfl, q2, hc⟩ := hc
  rw [CellsAll] at hc
  obtain ⟨_, _, rfl, q3, hc⟩ := hc
  rw [CellsAll] at hc
  obtain ⟨_, _, rfl, q4, hc⟩ := hc
  rw [CellsAll] at hc
  subst hc
  obtain ⟨a, rfl, ha⟩ := h _ q1
  obtain ⟨b, rfl, hb⟩ := h _ q2
  obtain ⟨c, rfl, hc⟩ := h _ q3
  obtain ⟨d, rfl, hd⟩ := h _ q4
  exact ⟨(a, b, c, d), rfl, ha, hb, hc, hd⟩
theorem el_bool {ecs : List AV} (h : CellsOf .bool ecs) : ∃ d, Sh.bool.pack ecs = B d ∧ True := by
  obtain ⟨n, rfl, h1⟩ := c_bool h
  exact ⟨n, rfl, h1⟩
theorem el_u8 {ecs : List AV} (h : CellsOf (.int .u8) ecs) : ∃ d, (Sh.int .u8).pack ecs = U8 d ∧ (0 ≤ d ∧ d < 256) := by
  obtain ⟨n, rfl, h1⟩ := c_u8 h
  exact ⟨n, rfl, h1⟩
theorem el_u16 {ecs : List AV} (h : CellsOf (.int .u16) ecs) : ∃ d, (Sh.int .u16).pack ecs = .sc (.int .u16 d) ∧ (0 ≤ d ∧ d < 65536) := by
  obtain ⟨n, rfl, h1⟩ := c_u16 h
  exact ⟨n, rfl, h1⟩
theorem el_u64 {ecs : List AV} (h : CellsOf (.int .u64) ecs) : ∃ d, (Sh.int .u64).pack ecs = U64 d ∧ (0 ≤ d ∧ d < 18446744073709551616) := by
  obtain ⟨n, rfl, h1⟩ := c_u64 h
  exact ⟨n, rfl, h1⟩
theorem el_arr2 {α : Type} {enc : α → AV} {ok : α → Prop} {e : Sh} (h : ∀ cs, CellsOf e cs → ∃ d, cs = [enc d] ∧ ok d) {cs : List AV} (hc : CellsOf (.struct [e, e]) cs) : ∃ d : α × α, (Sh.struct [e, e]).pack cs = .agg [enc d.1, enc d.2] ∧ ok d.1 ∧ ok d.2 := by
  obtain ⟨d, rfl, h1⟩ := c_arr2 h hc
  exact ⟨d, rfl, h1⟩
theorem el_arr3 {α : Type} {enc : α → AV} {ok : α → Prop} {e : Sh} (h : ∀ cs, CellsOf e cs → ∃ d, cs = [enc d] ∧ ok d) {cs : List AV} (hc : CellsOf (.struct [e, e, e]) cs) : ∃ d : α × α × α, (Sh.struct [e, e, e]).pack cs = .agg [enc d.1, enc d.2.1, enc d.2.2] ∧ ok d.1 ∧ ok d.2.1 ∧ ok d.2.2 := by
  obtain ⟨d, rfl, h1⟩ := c_arr3 h hc
  exact ⟨d, rfl, h1⟩
theorem el_arr4 {α : Type} {enc : α → AV} {ok : α → Prop} {e : Sh} (h : ∀ cs, CellsOf e cs → ∃ d, cs = [enc d] ∧ ok d) {cs : List AV} (hc : CellsOf (.struct [e, e, e, e]) cs) : ∃ d : α × α × α × α, (Sh.struct [e, e, e, e]).pack cs = .agg [enc d.1, enc d.2.1, enc d.2.2.1, enc d.2.2.2] ∧ ok d.1 ∧ ok d.2.1 ∧ ok d.2.2.1 ∧ ok d.2.2.2 := by
  obtain ⟨d, rfl, h1⟩ := c_arr4 h hc
  exact ⟨d, rfl, h1⟩

structure TSaw where
  Kerf : Int
  Trim : Int
  Pitch : Int
  Step : Int
  deriving DecidableEq
def encTSaw (s : TSaw) : AV := .agg [(I s.Kerf), (I s.Trim), (I s.Pitch), (I s.Step)]
def TSaw.ok (s : TSaw) : Prop := I64 s.Kerf ∧ I64 s.Trim ∧ I64 s.Pitch ∧ I64 s.Step
def shTSaw : Sh := .struct [(.int .i64), (.int .i64), (.int .i64), (.int .i64)]
theorem c_TSaw {cs : List AV} (h : CellsOf shTSaw cs) : ∃ s : TSaw, cs = [(I s.Kerf), (I s.Trim), (I s.Pitch), (I s.Step)] ∧ s.ok := by
  unfold shTSaw at h
  rw [CellsOf] at h
  rw [CellsAll] at h
  obtain ⟨_, _, rfl, q0, h⟩ := h
  rw [CellsAll] at h
  obtain ⟨_, _, rfl, q1, h⟩ := h
  rw [CellsAll] at h
  obtain ⟨_, _, rfl, q2, h⟩ := h
  rw [CellsAll] at h
  obtain ⟨_, _, rfl, q3, h⟩ := h
  rw [CellsAll] at h
  subst h
  obtain ⟨s0, rfl, k0⟩ := c_int q0
  obtain ⟨s1, rfl, k1⟩ := c_int q1
  obtain ⟨s2, rfl, k2⟩ := c_int q2
  obtain ⟨s3, rfl, k3⟩ := c_int q3
  exact ⟨⟨s0, s1, s2, s3⟩, rfl, k0, k1, k2, k3⟩
theorem of_TSaw {a : AV} (h : Of shTSaw a) : ∃ s : TSaw, a = encTSaw s ∧ s.ok := by
  obtain ⟨cs, rfl, h⟩ := h
  obtain ⟨b, rfl, hb⟩ := c_TSaw h
  exact ⟨b, rfl, hb⟩
theorem el_TSaw {ecs : List AV} (h : CellsOf shTSaw ecs) : ∃ d : TSaw, (shTSaw).pack ecs = encTSaw d ∧ d.ok := of_TSaw ⟨ecs, rfl, h⟩
structure TRates where
  Chip : Int
  Dust : Int
  Fine : Int
  deriving DecidableEq
def encTRates (s : TRates) : AV := .agg [(I s.Chip), (I s.Dust), (I s.Fine)]
def TRates.ok (s : TRates) : Prop := I64 s.Chip ∧ I64 s.Dust ∧ I64 s.Fine
def shTRates : Sh := .struct [(.int .i64), (.int .i64), (.int .i64)]
theorem c_TRates {cs : List AV} (h : CellsOf shTRates cs) : ∃ s : TRates, cs = [(I s.Chip), (I s.Dust), (I s.Fine)] ∧ s.ok := by
  unfold shTRates at h
  rw [CellsOf] at h
  rw [CellsAll] at h
  obtain ⟨_, _, rfl, q0, h⟩ := h
  rw [CellsAll] at h
  obtain ⟨_, _, rfl, q1, h⟩ := h
  rw [CellsAll] at h
  obtain ⟨_, _, rfl, q2, h⟩ := h
  rw [CellsAll] at h
  subst h
  obtain ⟨s0, rfl, k0⟩ := c_int q0
  obtain ⟨s1, rfl, k1⟩ := c_int q1
  obtain ⟨s2, rfl, k2⟩ := c_int q2
  exact ⟨⟨s0, s1, s2⟩, rfl, k0, k1, k2⟩
theorem of_TRates {a : AV} (h : Of shTRates a) : ∃ s : TRates, a = encTRates s ∧ s.ok := by
  obtain ⟨cs, rfl, h⟩ := h
  obtain ⟨b, rfl, hb⟩ := c_TRates h
  exact ⟨b, rfl, hb⟩
theorem el_TRates {ecs : List AV} (h : CellsOf shTRates ecs) : ∃ d : TRates, (shTRates).pack ecs = encTRates d ∧ d.ok := of_TRates ⟨ecs, rfl, h⟩
structure TSection where
  Low : Int
  Rows : (List Sp)
  deriving DecidableEq
def encTSection (s : TSection) : AV := .agg [(I s.Low), ((encL encSp) s.Rows)]
def TSection.ok (s : TSection) : Prop := I64 s.Low ∧ (s.Rows.length ≤ 9223372036854775807 ∧ ∀ d, d ∈ s.Rows → d.ok)
def shTSection : Sh := .struct [(.int .i64), (.slice shSp)]
theorem c_TSection {cs : List AV} (h : CellsOf shTSection cs) : ∃ s : TSection, cs = [(I s.Low), ((encL encSp) s.Rows)] ∧ s.ok := by
  unfold shTSection at h
  rw [CellsOf] at h
  rw [CellsAll] at h
  obtain ⟨_, _, rfl, q0, h⟩ := h
  rw [CellsAll] at h
  obtain ⟨_, _, rfl, q1, h⟩ := h
  rw [CellsAll] at h
  subst h
  obtain ⟨s0, rfl, k0⟩ := c_int q0
  obtain ⟨s1, rfl, k1⟩ := (c_slice (fun _ => el_sp)) q1
  exact ⟨⟨s0, s1⟩, rfl, k0, k1⟩
theorem of_TSection {a : AV} (h : Of shTSection a) : ∃ s : TSection, a = encTSection s ∧ s.ok := by
  obtain ⟨cs, rfl, h⟩ := h
  obtain ⟨b, rfl, hb⟩ := c_TSection h
  exact ⟨b, rfl, hb⟩
theorem el_TSection {ecs : List AV} (h : CellsOf shTSection ecs) : ∃ d : TSection, (shTSection).pack ecs = encTSection d ∧ d.ok := of_TSection ⟨ecs, rfl, h⟩
structure TSlice where
  Len : Int
  Sec : TSection
  deriving DecidableEq
def encTSlice (s : TSlice) : AV := .agg [(I s.Len), (I s.Sec.Low), ((encL encSp) s.Sec.Rows)]
def TSlice.ok (s : TSlice) : Prop := I64 s.Len ∧ s.Sec.ok
def shTSlice : Sh := .struct [(.int .i64), shTSection]
theorem c_TSlice {cs : List AV} (h : CellsOf shTSlice cs) : ∃ s : TSlice, cs = [(I s.Len), (I s.Sec.Low), ((encL encSp) s.Sec.Rows)] ∧ s.ok := by
  unfold shTSlice at h
  rw [CellsOf] at h
  rw [CellsAll] at h
  obtain ⟨_, _, rfl, q0, h⟩ := h
  rw [CellsAll] at h
  obtain ⟨_, _, rfl, q1, h⟩ := h
  rw [CellsAll] at h
  subst h
  obtain ⟨s0, rfl, k0⟩ := c_int q0
  obtain ⟨s1, rfl, k1⟩ := c_TSection q1
  exact ⟨⟨s0, s1⟩, rfl, k0, k1⟩
theorem of_TSlice {a : AV} (h : Of shTSlice a) : ∃ s : TSlice, a = encTSlice s ∧ s.ok := by
  obtain ⟨cs, rfl, h⟩ := h
  obtain ⟨b, rfl, hb⟩ := c_TSlice h
  exact ⟨b, rfl, hb⟩
theorem el_TSlice {ecs : List AV} (h : CellsOf shTSlice ecs) : ∃ d : TSlice, (shTSlice).pack ecs = encTSlice d ∧ d.ok := of_TSlice ⟨ecs, rfl, h⟩
structure TProduct where
  Name : ByteArray
  Thick : Int
  Width : Int
  Allow : Int
  Wane : Int
  Lengths : (List Int)
  Prices : (List Int)
  deriving DecidableEq
def encTProduct (s : TProduct) : AV := .agg [(S s.Name), (I s.Thick), (I s.Width), (I s.Allow), (I s.Wane), ((encL I) s.Lengths), ((encL I) s.Prices)]
def TProduct.ok (s : TProduct) : Prop := s.Name.size ≤ 9223372036854775807 ∧ I64 s.Thick ∧ I64 s.Width ∧ I64 s.Allow ∧ I64 s.Wane ∧ (s.Lengths.length ≤ 9223372036854775807 ∧ ∀ d, d ∈ s.Lengths → I64 d) ∧ (s.Prices.length ≤ 9223372036854775807 ∧ ∀ d, d ∈ s.Prices → I64 d)
def shTProduct : Sh := .struct [.str, (.int .i64), (.int .i64), (.int .i64), (.int .i64), (.slice (.int .i64)), (.slice (.int .i64))]
theorem c_TProduct {cs : List AV} (h : CellsOf shTProduct cs) : ∃ s : TProduct, cs = [(S s.Name), (I s.Thick), (I s.Width), (I s.Allow), (I s.Wane), ((encL I) s.Lengths), ((encL I) s.Prices)] ∧ s.ok := by
  unfold shTProduct at h
  rw [CellsOf] at h
  rw [CellsAll] at h
  obtain ⟨_, _, rfl, q0, h⟩ := h
  rw [CellsAll] at h
  obtain ⟨_, _, rfl, q1, h⟩ := h
  rw [CellsAll] at h
  obtain ⟨_, _, rfl, q2, h⟩ := h
  rw [CellsAll] at h
  obtain ⟨_, _, rfl, q3, h⟩ := h
  rw [CellsAll] at h
  obtain ⟨_, _, rfl, q4, h⟩ := h
  rw [CellsAll] at h
  obtain ⟨_, _, rfl, q5, h⟩ := h
  rw [CellsAll] at h
  obtain ⟨_, _, rfl, q6, h⟩ := h
  rw [CellsAll] at h
  subst h
  obtain ⟨s0, rfl, k0⟩ := c_str q0
  obtain ⟨s1, rfl, k1⟩ := c_int q1
  obtain ⟨s2, rfl, k2⟩ := c_int q2
  obtain ⟨s3, rfl, k3⟩ := c_int q3
  obtain ⟨s4, rfl, k4⟩ := c_int q4
  obtain ⟨s5, rfl, k5⟩ := (c_slice (fun _ => el_int)) q5
  obtain ⟨s6, rfl, k6⟩ := (c_slice (fun _ => el_int)) q6
  exact ⟨⟨s0, s1, s2, s3, s4, s5, s6⟩, rfl, k0, k1, k2, k3, k4, k5, k6⟩
theorem of_TProduct {a : AV} (h : Of shTProduct a) : ∃ s : TProduct, a = encTProduct s ∧ s.ok := by
  obtain ⟨cs, rfl, h⟩ := h
  obtain ⟨b, rfl, hb⟩ := c_TProduct h
  exact ⟨b, rfl, hb⟩
theorem el_TProduct {ecs : List AV} (h : CellsOf shTProduct ecs) : ∃ d : TProduct, (shTProduct).pack ecs = encTProduct d ∧ d.ok := of_TProduct ⟨ecs, rfl, h⟩
structure Tsawmilllaw20_Given where
  Solid : (List TSlice)
  Defects : (List Df)
  Product : TProduct
  Fine : Int
  deriving DecidableEq
def encTsawmilllaw20_Given (s : Tsawmilllaw20_Given) : AV := .agg [((encL encTSlice) s.Solid), ((encL encDf) s.Defects), (S s.Product.Name), (I s.Product.Thick), (I s.Product.Width), (I s.Product.Allow), (I s.Product.Wane), ((encL I) s.Product.Lengths), ((encL I) s.Product.Prices), (I s.Fine)]
def Tsawmilllaw20_Given.ok (s : Tsawmilllaw20_Given) : Prop := (s.Solid.length ≤ 9223372036854775807 ∧ ∀ d, d ∈ s.Solid → d.ok) ∧ (s.Defects.length ≤ 9223372036854775807 ∧ ∀ d, d ∈ s.Defects → d.ok) ∧ s.Product.ok ∧ I64 s.Fine
def shTsawmilllaw20_Given : Sh := .struct [(.slice shTSlice), (.slice shDf), shTProduct, (.int .i64)]
theorem c_Tsawmilllaw20_Given {cs : List AV} (h : CellsOf shTsawmilllaw20_Given cs) : ∃ s : Tsawmilllaw20_Given, cs = [((encL encTSlice) s.Solid), ((encL encDf) s.Defects), (S s.Product.Name), (I s.Product.Thick), (I s.Product.Width), (I s.Product.Allow), (I s.Product.Wane), ((encL I) s.Product.Lengths), ((encL I) s.Product.Prices), (I s.Fine)] ∧ s.ok := by
  unfold shTsawmilllaw20_Given at h
  rw [CellsOf] at h
  rw [CellsAll] at h
  obtain ⟨_, _, rfl, q0, h⟩ := h
  rw [CellsAll] at h
  obtain ⟨_, _, rfl, q1, h⟩ := h
  rw [CellsAll] at h
  obtain ⟨_, _, rfl, q2, h⟩ := h
  rw [CellsAll] at h
  obtain ⟨_, _, rfl, q3, h⟩ := h
  rw [CellsAll] at h
  subst h
  obtain ⟨s0, rfl, k0⟩ := (c_slice (fun _ => el_TSlice)) q0
  obtain ⟨s1, rfl, k1⟩ := (c_slice (fun _ => el_df)) q1
  obtain ⟨s2, rfl, k2⟩ := c_TProduct q2
  obtain ⟨s3, rfl, k3⟩ := c_int q3
  exact ⟨⟨s0, s1, s2, s3⟩, rfl, k0, k1, k2, k3⟩
theorem of_Tsawmilllaw20_Given {a : AV} (h : Of shTsawmilllaw20_Given a) : ∃ s : Tsawmilllaw20_Given, a = encTsawmilllaw20_Given s ∧ s.ok := by
  obtain ⟨cs, rfl, h⟩ := h
  obtain ⟨b, rfl, hb⟩ := c_Tsawmilllaw20_Given h
  exact ⟨b, rfl, hb⟩
theorem el_Tsawmilllaw20_Given {ecs : List AV} (h : CellsOf shTsawmilllaw20_Given ecs) : ∃ d : Tsawmilllaw20_Given, (shTsawmilllaw20_Given).pack ecs = encTsawmilllaw20_Given d ∧ d.ok := of_Tsawmilllaw20_Given ⟨ecs, rfl, h⟩
structure TRect where
  X : Sp
  Y : Sp
  deriving DecidableEq
def encTRect (s : TRect) : AV := .agg [(I s.X.a), (I s.X.b), (I s.Y.a), (I s.Y.b)]
def TRect.ok (s : TRect) : Prop := s.X.ok ∧ s.Y.ok
def shTRect : Sh := .struct [shSp, shSp]
theorem c_TRect {cs : List AV} (h : CellsOf shTRect cs) : ∃ s : TRect, cs = [(I s.X.a), (I s.X.b), (I s.Y.a), (I s.Y.b)] ∧ s.ok := by
  unfold shTRect at h
  rw [CellsOf] at h
  rw [CellsAll] at h
  obtain ⟨_, _, rfl, q0, h⟩ := h
  rw [CellsAll] at h
  obtain ⟨_, _, rfl, q1, h⟩ := h
  rw [CellsAll] at h
  subst h
  obtain ⟨s0, rfl, k0⟩ := c_sp q0
  obtain ⟨s1, rfl, k1⟩ := c_sp q1
  exact ⟨⟨s0, s1⟩, rfl, k0, k1⟩
theorem of_TRect {a : AV} (h : Of shTRect a) : ∃ s : TRect, a = encTRect s ∧ s.ok := by
  obtain ⟨cs, rfl, h⟩ := h
  obtain ⟨b, rfl, hb⟩ := c_TRect h
  exact ⟨b, rfl, hb⟩
theorem el_TRect {ecs : List AV} (h : CellsOf shTRect ecs) : ∃ d : TRect, (shTRect).pack ecs = encTRect d ∧ d.ok := of_TRect ⟨ecs, rfl, h⟩
structure Tworth_zone where
  z_ : Sp
  lack : Int
  deriving DecidableEq
def encTworth_zone (s : Tworth_zone) : AV := .agg [(I s.z_.a), (I s.z_.b), (I s.lack)]
def Tworth_zone.ok (s : Tworth_zone) : Prop := s.z_.ok ∧ I64 s.lack
def shTworth_zone : Sh := .struct [shSp, (.int .i64)]
theorem c_Tworth_zone {cs : List AV} (h : CellsOf shTworth_zone cs) : ∃ s : Tworth_zone, cs = [(I s.z_.a), (I s.z_.b), (I s.lack)] ∧ s.ok := by
  unfold shTworth_zone at h
  rw [CellsOf] at h
  rw [CellsAll] at h
  obtain ⟨_, _, rfl, q0, h⟩ := h
  rw [CellsAll] at h
  obtain ⟨_, _, rfl, q1, h⟩ := h
  rw [CellsAll] at h
  subst h
  obtain ⟨s0, rfl, k0⟩ := c_sp q0
  obtain ⟨s1, rfl, k1⟩ := c_int q1
  exact ⟨⟨s0, s1⟩, rfl, k0, k1⟩
theorem of_Tworth_zone {a : AV} (h : Of shTworth_zone a) : ∃ s : Tworth_zone, a = encTworth_zone s ∧ s.ok := by
  obtain ⟨cs, rfl, h⟩ := h
  obtain ⟨b, rfl, hb⟩ := c_Tworth_zone h
  exact ⟨b, rfl, hb⟩
theorem el_Tworth_zone {ecs : List AV} (h : CellsOf shTworth_zone ecs) : ∃ d : Tworth_zone, (shTworth_zone).pack ecs = encTworth_zone d ∧ d.ok := of_Tworth_zone ⟨ecs, rfl, h⟩
structure Tworth_view where
  product : TProduct
  rect : TRect
  length : Int
  zones : (List Tworth_zone)
  defects : (List Df)
  deriving DecidableEq
def encTworth_view (s : Tworth_view) : AV := .agg [(S s.product.Name), (I s.product.Thick), (I s.product.Width), (I s.product.Allow), (I s.product.Wane), ((encL I) s.product.Lengths), ((encL I) s.product.Prices), (I s.rect.X.a), (I s.rect.X.b), (I s.rect.Y.a), (I s.rect.Y.b), (I s.length), ((encL encTworth_zone) s.zones), ((encL encDf) s.defects)]
def Tworth_view.ok (s : Tworth_view) : Prop := s.product.ok ∧ s.rect.ok ∧ I64 s.length ∧ (s.zones.length ≤ 9223372036854775807 ∧ ∀ d, d ∈ s.zones → d.ok) ∧ (s.defects.length ≤ 9223372036854775807 ∧ ∀ d, d ∈ s.defects → d.ok)
def shTworth_view : Sh := .struct [shTProduct, shTRect, (.int .i64), (.slice shTworth_zone), (.slice shDf)]
theorem c_Tworth_view {cs : List AV} (h : CellsOf shTworth_view cs) : ∃ s : Tworth_view, cs = [(S s.product.Name), (I s.product.Thick), (I s.product.Width), (I s.product.Allow), (I s.product.Wane), ((encL I) s.product.Lengths), ((encL I) s.product.Prices), (I s.rect.X.a), (I s.rect.X.b), (I s.rect.Y.a), (I s.rect.Y.b), (I s.length), ((encL encTworth_zone) s.zones), ((encL encDf) s.defects)] ∧ s.ok := by
  unfold shTworth_view at h
  rw [CellsOf] at h
  rw [CellsAll] at h
  obtain ⟨_, _, rfl, q0, h⟩ := h
  rw [CellsAll] at h
  obtain ⟨_, _, rfl, q1, h⟩ := h
  rw [CellsAll] at h
  obtain ⟨_, _, rfl, q2, h⟩ := h
  rw [CellsAll] at h
  obtain ⟨_, _, rfl, q3, h⟩ := h
  rw [CellsAll] at h
  obtain ⟨_, _, rfl, q4, h⟩ := h
  rw [CellsAll] at h
  subst h
  obtain ⟨s0, rfl, k0⟩ := c_TProduct q0
  obtain ⟨s1, rfl, k1⟩ := c_TRect q1
  obtain ⟨s2, rfl, k2⟩ := c_int q2
  obtain ⟨s3, rfl, k3⟩ := (c_slice (fun _ => el_Tworth_zone)) q3
  obtain ⟨s4, rfl, k4⟩ := (c_slice (fun _ => el_df)) q4
  exact ⟨⟨s0, s1, s2, s3, s4⟩, rfl, k0, k1, k2, k3, k4⟩
theorem of_Tworth_view {a : AV} (h : Of shTworth_view a) : ∃ s : Tworth_view, a = encTworth_view s ∧ s.ok := by
  obtain ⟨cs, rfl, h⟩ := h
  obtain ⟨b, rfl, hb⟩ := c_Tworth_view h
  exact ⟨b, rfl, hb⟩
theorem el_Tworth_view {ecs : List AV} (h : CellsOf shTworth_view ecs) : ∃ d : Tworth_view, (shTworth_view).pack ecs = encTworth_view d ∧ d.ok := of_Tworth_view ⟨ecs, rfl, h⟩

end Go.Proofs.Ytjdgaclkcmjjcaa
