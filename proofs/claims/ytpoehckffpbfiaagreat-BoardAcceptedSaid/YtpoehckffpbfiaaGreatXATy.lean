/- Ty: what functions of the program compute (written by mod.py). -/
import Derived.Test.YtpoehckffpbfiaaGreatXASh
import Derived.KernelRfl
namespace Go.Proofs.YtpoehckffpbfiaaGreat
open Go Go.Ab
set_option linter.unusedSimpArgs false
set_option linter.unusedVariables false
set_option linter.unusedSectionVars false
set_option maxRecDepth 20000
set_option maxHeartbeats 1000000
abbrev W64 (n : Int) : Int := IntKind.i64.wrap n
abbrev WU64 (n : Int) : Int := IntKind.u64.wrap n
abbrev WU8 (n : Int) : Int := IntKind.u8.wrap n
abbrev U64 (n : Int) : AV := .sc (.int .u64 n)
abbrev U8 (n : Int) : AV := .sc (.int .u8 n)
abbrev bAnd (k : IntKind) (a b : Int) : Int := k.wrap (BitVec.ofInt k.bits a &&& BitVec.ofInt k.bits b).toNat
abbrev bOr (k : IntKind) (a b : Int) : Int := k.wrap (BitVec.ofInt k.bits a ||| BitVec.ofInt k.bits b).toNat
abbrev bNot (k : IntKind) (n : Int) : Int := k.wrap (BitVec.ofInt k.bits (if k.signed then -1 else k.max) ^^^ BitVec.ofInt k.bits n).toNat
abbrev bShl (k : IntKind) (a b : Int) : Int := k.wrap (a * 2 ^ (min b.toNat k.bits))
abbrev bShr (k : IntKind) (a b : Int) : Int := a.fdiv (2 ^ (min b.toNat k.bits))
abbrev encL {α : Type} (enc : α → AV) (l : List α) : AV := .sl (l.map enc)
def eqV {α : Type} (enc : α → AV) (a b : α) : Bool := eqA (enc a).cells (enc b).cells
theorem c_str {cs : List AV} (h : CellsOf .str cs) : ∃ s : ByteArray, cs = [S s] ∧ s.size ≤ 9223372036854775807 := by
 rw [CellsOf] at h
 obtain ⟨s, rfl, h1⟩ := h
 exact ⟨s, rfl, h1⟩
theorem el_int {ecs : List AV} (h : CellsOf (.int .i64) ecs) : ∃ d, (Sh.int .i64).pack ecs = I d ∧ I64 d := by
 obtain ⟨n, rfl, h1⟩ := c_int h
 exact ⟨n, rfl, h1⟩
theorem el_sp {ecs : List AV} (h : CellsOf shSp ecs) : ∃ d : Sp, shSp.pack ecs = encSp d ∧ d.ok := by
 obtain ⟨s, rfl, h1⟩ := c_sp h
 exact ⟨s, rfl, h1⟩
theorem el_df {ecs : List AV} (h : CellsOf shDf ecs) : ∃ d : Df, shDf.pack ecs = encDf d ∧ d.ok := by
 obtain ⟨s, rfl, h1⟩ := c_df h
 exact ⟨s, rfl, h1⟩
theorem c_slice {α : Type} {enc : α → AV} {ok : α → Prop} {e : Sh} (hel : ∀ ecs, CellsOf e ecs → ∃ d, e.pack ecs = enc d ∧ ok d) {cs : List AV} (h : CellsOf (.slice e) cs) : ∃ l : List α, cs = [encL enc l] ∧ (l.length ≤ 9223372036854775807 ∧ ∀ d, d ∈ l → ok d) := by
 rw [CellsOf] at h
 obtain ⟨xs, rfl, h1, h2⟩ := h
 obtain ⟨l, rfl, h3⟩ := of_list (enc := enc) (ok := ok) (xs := xs) fun x hx => by
  obtain ⟨ecs, rfl, hc⟩ := h2 x hx
  exact hel ecs hc
 exact ⟨l, rfl, by rw [List.length_map] at h1; exact h1, h3⟩
theorem el_slice {α : Type} {enc : α → AV} {ok : α → Prop} {e : Sh} (hel : ∀ ecs, CellsOf e ecs → ∃ d, e.pack ecs = enc d ∧ ok d) {ecs : List AV} (h : CellsOf (.slice e) ecs) : ∃ d : List α, (Sh.slice e).pack ecs = encL enc d ∧ (d.length ≤ 9223372036854775807 ∧ ∀ x, x ∈ d → ok x) := by
 obtain ⟨l, rfl, h1⟩ := c_slice hel h
 exact ⟨l, rfl, h1⟩
theorem of_c {α : Type} {enc : α → AV} {ok : α → Prop} {s : Sh} (h : ∀ cs, CellsOf s cs → ∃ d, s.pack cs = enc d ∧ ok d) {a : AV} (ha : Of s a) : ∃ d, a = enc d ∧ ok d := by
 obtain ⟨cs, rfl, hc⟩ := ha
 exact h cs hc
structure TCell where
 Surf : Int
 Core : Int
 Stress : Int
 deriving DecidableEq
def encTCell (s : TCell) : AV := .agg [(I s.Surf), (I s.Core), (I s.Stress)]
def TCell.ok (s : TCell) : Prop := I64 s.Surf ∧ I64 s.Core ∧ I64 s.Stress
def shTCell : Sh := .struct [(.int .i64), (.int .i64), (.int .i64)]
structure TBoard where
 Id : ByteArray
 Log : ByteArray
 Species : ByteArray
 Product : Int
 Box : Bx
 Volume : Int
 Defects : (List Df)
 Wane : Int
 Cell : TCell
 Dried : Bool
 Grade : Int
 deriving DecidableEq
def encTBoard (s : TBoard) : AV := .agg [(S s.Id), (S s.Log), (S s.Species), (I s.Product), (I s.Box.x.a), (I s.Box.x.b), (I s.Box.y.a), (I s.Box.y.b), (I s.Box.z.a), (I s.Box.z.b), (I s.Volume), ((encL encDf) s.Defects), (I s.Wane), (I s.Cell.Surf), (I s.Cell.Core), (I s.Cell.Stress), (B s.Dried), (I s.Grade)]
def TBoard.ok (s : TBoard) : Prop := s.Id.size ≤ 9223372036854775807 ∧ s.Log.size ≤ 9223372036854775807 ∧ s.Species.size ≤ 9223372036854775807 ∧ I64 s.Product ∧ s.Box.ok ∧ I64 s.Volume ∧ (s.Defects.length ≤ 9223372036854775807 ∧ ∀ d, d ∈ s.Defects → d.ok) ∧ I64 s.Wane ∧ s.Cell.ok ∧ True ∧ I64 s.Grade
structure TProduct where
 Name : ByteArray
 Thick : Int
 Width : Int
 Allow : Int
 Wane : Int
 Lengths : (List Int)
 Prices : (List Int)
 deriving DecidableEq
def encTProduct (s : TProduct) : AV := .agg [(S s.Name), (I s.Thick), (I s.Width), (I s.Allow), (I s.Wane), ((encL I) s.Lengths), ((encL I) s.Prices)]
def TProduct.ok (s : TProduct) : Prop := s.Name.size ≤ 9223372036854775807 ∧ I64 s.Thick ∧ I64 s.Width ∧ I64 s.Allow ∧ I64 s.Wane ∧ (s.Lengths.length ≤ 9223372036854775807 ∧ ∀ d, d ∈ s.Lengths → I64 d) ∧ (s.Prices.length ≤ 9223372036854775807 ∧ ∀ d, d ∈ s.Prices → I64 d)
def shTProduct : Sh := .struct [.str, (.int .i64), (.int .i64), (.int .i64), (.int .i64), (.slice (.int .i64)), (.slice (.int .i64))]
theorem c_TProduct {cs : List AV} (h : CellsOf shTProduct cs) : ∃ s : TProduct, cs = [(S s.Name), (I s.Thick), (I s.Width), (I s.Allow), (I s.Wane), ((encL I) s.Lengths), ((encL I) s.Prices)] ∧ s.ok := by
 unfold shTProduct at h
 rw [CellsOf] at h
 rw [CellsAll] at h
 obtain ⟨_, _, rfl, q0, h⟩ := h
 rw [CellsAll] at h
 obtain ⟨_, _, rfl, q1, h⟩ := h
 rw [CellsAll] at h
 obtain ⟨_, _, rfl, q2, h⟩ := h
 rw [CellsAll] at h
 obtain ⟨_, _, rfl, q3, h⟩ := h
 rw [CellsAll] at h
 obtain ⟨_, _, rfl, q4, h⟩ := h
 rw [CellsAll] at h
 obtain ⟨_, _, rfl, q5, h⟩ := h
 rw [CellsAll] at h
 obtain ⟨_, _, rfl, q6, h⟩ := h
 rw [CellsAll] at h
 subst h
 obtain ⟨s0, rfl, k0⟩ := c_str q0
 obtain ⟨s1, rfl, k1⟩ := c_int q1
 obtain ⟨s2, rfl, k2⟩ := c_int q2
 obtain ⟨s3, rfl, k3⟩ := c_int q3
 obtain ⟨s4, rfl, k4⟩ := c_int q4
 obtain ⟨s5, rfl, k5⟩ := (c_slice (fun _ => el_int)) q5
 obtain ⟨s6, rfl, k6⟩ := (c_slice (fun _ => el_int)) q6
 exact ⟨⟨s0, s1, s2, s3, s4, s5, s6⟩, rfl, k0, k1, k2, k3, k4, k5, k6⟩
theorem of_TProduct {a : AV} (h : Of shTProduct a) : ∃ s : TProduct, a = encTProduct s ∧ s.ok := by
 obtain ⟨cs, rfl, h⟩ := h
 obtain ⟨b, rfl, hb⟩ := c_TProduct h
 exact ⟨b, rfl, hb⟩
theorem el_TProduct {ecs : List AV} (h : CellsOf shTProduct ecs) : ∃ d : TProduct, (shTProduct).pack ecs = encTProduct d ∧ d.ok := of_TProduct ⟨ecs, rfl, h⟩
structure TSpecies where
 Name : ByteArray
 Green : Int
 Fast : Int
 Slow : Int
 Safe : Int
 MaxGrad : Int
 Crack : Int
 MaxTemp : Int
 MaxDepress : Int
 Density : Int
 Stiff : Int
 KnotLoss : Int
 Shrink : Int
 deriving DecidableEq
def encTSpecies (s : TSpecies) : AV := .agg [(S s.Name), (I s.Green), (I s.Fast), (I s.Slow), (I s.Safe), (I s.MaxGrad), (I s.Crack), (I s.MaxTemp), (I s.MaxDepress), (I s.Density), (I s.Stiff), (I s.KnotLoss), (I s.Shrink)]
def TSpecies.ok (s : TSpecies) : Prop := s.Name.size ≤ 9223372036854775807 ∧ I64 s.Green ∧ I64 s.Fast ∧ I64 s.Slow ∧ I64 s.Safe ∧ I64 s.MaxGrad ∧ I64 s.Crack ∧ I64 s.MaxTemp ∧ I64 s.MaxDepress ∧ I64 s.Density ∧ I64 s.Stiff ∧ I64 s.KnotLoss ∧ I64 s.Shrink
def shTSpecies : Sh := .struct [.str, (.int .i64), (.int .i64), (.int .i64), (.int .i64), (.int .i64), (.int .i64), (.int .i64), (.int .i64), (.int .i64), (.int .i64), (.int .i64), (.int .i64)]
theorem c_TSpecies {cs : List AV} (h : CellsOf shTSpecies cs) : ∃ s : TSpecies, cs = [(S s.Name), (I s.Green), (I s.Fast), (I s.Slow), (I s.Safe), (I s.MaxGrad), (I s.Crack), (I s.MaxTemp), (I s.MaxDepress), (I s.Density), (I s.Stiff), (I s.KnotLoss), (I s.Shrink)] ∧ s.ok := by
 unfold shTSpecies at h
 rw [CellsOf] at h
 rw [CellsAll] at h
 obtain ⟨_, _, rfl, q0, h⟩ := h
 rw [CellsAll] at h
 obtain ⟨_, _, rfl, q1, h⟩ := h
 rw [CellsAll] at h
 obtain ⟨_, _, rfl, q2, h⟩ := h
 rw [CellsAll] at h
 obtain ⟨_, _, rfl, q3, h⟩ := h
 rw [CellsAll] at h
 obtain ⟨_, _, rfl, q4, h⟩ := h
 rw [CellsAll] at h
 obtain ⟨_, _, rfl, q5, h⟩ := h
 rw [CellsAll] at h
 obtain ⟨_, _, rfl, q6, h⟩ := h
 rw [CellsAll] at h
 obtain ⟨_, _, rfl, q7, h⟩ := h
 rw [CellsAll] at h
 obtain ⟨_, _, rfl, q8, h⟩ := h
 rw [CellsAll] at h
 obtain ⟨_, _, rfl, q9, h⟩ := h
 rw [CellsAll] at h
 obtain ⟨_, _, rfl, q10, h⟩ := h
 rw [CellsAll] at h
 obtain ⟨_, _, rfl, q11, h⟩ := h
 rw [CellsAll] at h
 obtain ⟨_, _, rfl, q12, h⟩ := h
 rw [CellsAll] at h
 subst h
 obtain ⟨s0, rfl, k0⟩ := c_str q0
 obtain ⟨s1, rfl, k1⟩ := c_int q1
 obtain ⟨s2, rfl, k2⟩ := c_int q2
 obtain ⟨s3, rfl, k3⟩ := c_int q3
 obtain ⟨s4, rfl, k4⟩ := c_int q4
 obtain ⟨s5, rfl, k5⟩ := c_int q5
 obtain ⟨s6, rfl, k6⟩ := c_int q6
 obtain ⟨s7, rfl, k7⟩ := c_int q7
 obtain ⟨s8, rfl, k8⟩ := c_int q8
 obtain ⟨s9, rfl, k9⟩ := c_int q9
 obtain ⟨s10, rfl, k10⟩ := c_int q10
 obtain ⟨s11, rfl, k11⟩ := c_int q11
 obtain ⟨s12, rfl, k12⟩ := c_int q12
 exact ⟨⟨s0, s1, s2, s3, s4, s5, s6, s7, s8, s9, s10, s11, s12⟩, rfl, k0, k1, k2, k3, k4, k5, k6, k7, k8, k9, k10, k11, k12⟩
structure Tsawmilllaw30_Made where
 Id : ByteArray
 Log : ByteArray
 Species : TSpecies
 Product : Int
 Box : Bx
 deriving DecidableEq
def encTsawmilllaw30_Made (s : Tsawmilllaw30_Made) : AV := .agg [(S s.Id), (S s.Log), (S s.Species.Name), (I s.Species.Green), (I s.Species.Fast), (I s.Species.Slow), (I s.Species.Safe), (I s.Species.MaxGrad), (I s.Species.Crack), (I s.Species.MaxTemp), (I s.Species.MaxDepress), (I s.Species.Density), (I s.Species.Stiff), (I s.Species.KnotLoss), (I s.Species.Shrink), (I s.Product), (I s.Box.x.a), (I s.Box.x.b), (I s.Box.y.a), (I s.Box.y.b), (I s.Box.z.a), (I s.Box.z.b)]
def Tsawmilllaw30_Made.ok (s : Tsawmilllaw30_Made) : Prop := s.Id.size ≤ 9223372036854775807 ∧ s.Log.size ≤ 9223372036854775807 ∧ s.Species.ok ∧ I64 s.Product ∧ s.Box.ok
def shTsawmilllaw30_Made : Sh := .struct [.str, .str, shTSpecies, (.int .i64), shBx]
theorem c_Tsawmilllaw30_Made {cs : List AV} (h : CellsOf shTsawmilllaw30_Made cs) : ∃ s : Tsawmilllaw30_Made, cs = [(S s.Id), (S s.Log), (S s.Species.Name), (I s.Species.Green), (I s.Species.Fast), (I s.Species.Slow), (I s.Species.Safe), (I s.Species.MaxGrad), (I s.Species.Crack), (I s.Species.MaxTemp), (I s.Species.MaxDepress), (I s.Species.Density), (I s.Species.Stiff), (I s.Species.KnotLoss), (I s.Species.Shrink), (I s.Product), (I s.Box.x.a), (I s.Box.x.b), (I s.Box.y.a), (I s.Box.y.b), (I s.Box.z.a), (I s.Box.z.b)] ∧ s.ok := by
 unfold shTsawmilllaw30_Made at h
 rw [CellsOf] at h
 rw [CellsAll] at h
 obtain ⟨_, _, rfl, q0, h⟩ := h
 rw [CellsAll] at h
 obtain ⟨_, _, rfl, q1, h⟩ := h
 rw [CellsAll] at h
 obtain ⟨_, _, rfl, q2, h⟩ := h
 rw [CellsAll] at h
 obtain ⟨_, _, rfl, q3, h⟩ := h
 rw [CellsAll] at h
 obtain ⟨_, _, rfl, q4, h⟩ := h
 rw [CellsAll] at h
 subst h
 obtain ⟨s0, rfl, k0⟩ := c_str q0
 obtain ⟨s1, rfl, k1⟩ := c_str q1
 obtain ⟨s2, rfl, k2⟩ := c_TSpecies q2
 obtain ⟨s3, rfl, k3⟩ := c_int q3
 obtain ⟨s4, rfl, k4⟩ := c_bx q4
 exact ⟨⟨s0, s1, s2, s3, s4⟩, rfl, k0, k1, k2, k3, k4⟩
theorem of_Tsawmilllaw30_Made {a : AV} (h : Of shTsawmilllaw30_Made a) : ∃ s : Tsawmilllaw30_Made, a = encTsawmilllaw30_Made s ∧ s.ok := by
 obtain ⟨cs, rfl, h⟩ := h
 obtain ⟨b, rfl, hb⟩ := c_Tsawmilllaw30_Made h
 exact ⟨b, rfl, hb⟩
theorem el_Tsawmilllaw30_Made {ecs : List AV} (h : CellsOf shTsawmilllaw30_Made ecs) : ∃ d : Tsawmilllaw30_Made, (shTsawmilllaw30_Made).pack ecs = encTsawmilllaw30_Made d ∧ d.ok := of_Tsawmilllaw30_Made ⟨ecs, rfl, h⟩
structure TSection where
 Low : Int
 Rows : (List Sp)
 deriving DecidableEq
def encTSection (s : TSection) : AV := .agg [(I s.Low), ((encL encSp) s.Rows)]
def TSection.ok (s : TSection) : Prop := I64 s.Low ∧ (s.Rows.length ≤ 9223372036854775807 ∧ ∀ d, d ∈ s.Rows → d.ok)
def shTSection : Sh := .struct [(.int .i64), (.slice shSp)]
theorem c_TSection {cs : List AV} (h : CellsOf shTSection cs) : ∃ s : TSection, cs = [(I s.Low), ((encL encSp) s.Rows)] ∧ s.ok := by
 unfold shTSection at h
 rw [CellsOf] at h
 rw [CellsAll] at h
 obtain ⟨_, _, rfl, q0, h⟩ := h
 rw [CellsAll] at h
 obtain ⟨_, _, rfl, q1, h⟩ := h
 rw [CellsAll] at h
 subst h
 obtain ⟨s0, rfl, k0⟩ := c_int q0
 obtain ⟨s1, rfl, k1⟩ := (c_slice (fun _ => el_sp)) q1
 exact ⟨⟨s0, s1⟩, rfl, k0, k1⟩
structure TSlice where
 Len : Int
 Sec : TSection
 deriving DecidableEq
def encTSlice (s : TSlice) : AV := .agg [(I s.Len), (I s.Sec.Low), ((encL encSp) s.Sec.Rows)]
def TSlice.ok (s : TSlice) : Prop := I64 s.Len ∧ s.Sec.ok
def shTSlice : Sh := .struct [(.int .i64), shTSection]
theorem c_TSlice {cs : List AV} (h : CellsOf shTSlice cs) : ∃ s : TSlice, cs = [(I s.Len), (I s.Sec.Low), ((encL encSp) s.Sec.Rows)] ∧ s.ok := by
 unfold shTSlice at h
 rw [CellsOf] at h
 rw [CellsAll] at h
 obtain ⟨_, _, rfl, q0, h⟩ := h
 rw [CellsAll] at h
 obtain ⟨_, _, rfl, q1, h⟩ := h
 rw [CellsAll] at h
 subst h
 obtain ⟨s0, rfl, k0⟩ := c_int q0
 obtain ⟨s1, rfl, k1⟩ := c_TSection q1
 exact ⟨⟨s0, s1⟩, rfl, k0, k1⟩
theorem of_TSlice {a : AV} (h : Of shTSlice a) : ∃ s : TSlice, a = encTSlice s ∧ s.ok := by
 obtain ⟨cs, rfl, h⟩ := h
 obtain ⟨b, rfl, hb⟩ := c_TSlice h
 exact ⟨b, rfl, hb⟩
theorem el_TSlice {ecs : List AV} (h : CellsOf shTSlice ecs) : ∃ d : TSlice, (shTSlice).pack ecs = encTSlice d ∧ d.ok := of_TSlice ⟨ecs, rfl, h⟩
structure Tsawmilllaw30_Log where
 Solid : (List TSlice)
 Defects : (List Df)
 deriving DecidableEq
def encTsawmilllaw30_Log (s : Tsawmilllaw30_Log) : AV := .agg [((encL encTSlice) s.Solid), ((encL encDf) s.Defects)]
def Tsawmilllaw30_Log.ok (s : Tsawmilllaw30_Log) : Prop := (s.Solid.length ≤ 9223372036854775807 ∧ ∀ d, d ∈ s.Solid → d.ok) ∧ (s.Defects.length ≤ 9223372036854775807 ∧ ∀ d, d ∈ s.Defects → d.ok)
def shTsawmilllaw30_Log : Sh := .struct [(.slice shTSlice), (.slice shDf)]
theorem c_Tsawmilllaw30_Log {cs : List AV} (h : CellsOf shTsawmilllaw30_Log cs) : ∃ s : Tsawmilllaw30_Log, cs = [((encL encTSlice) s.Solid), ((encL encDf) s.Defects)] ∧ s.ok := by
 unfold shTsawmilllaw30_Log at h
 rw [CellsOf] at h
 rw [CellsAll] at h
 obtain ⟨_, _, rfl, q0, h⟩ := h
 rw [CellsAll] at h
 obtain ⟨_, _, rfl, q1, h⟩ := h
 rw [CellsAll] at h
 subst h
 obtain ⟨s0, rfl, k0⟩ := (c_slice (fun _ => el_TSlice)) q0
 obtain ⟨s1, rfl, k1⟩ := (c_slice (fun _ => el_df)) q1
 exact ⟨⟨s0, s1⟩, rfl, k0, k1⟩
theorem of_Tsawmilllaw30_Log {a : AV} (h : Of shTsawmilllaw30_Log a) : ∃ s : Tsawmilllaw30_Log, a = encTsawmilllaw30_Log s ∧ s.ok := by
 obtain ⟨cs, rfl, h⟩ := h
 obtain ⟨b, rfl, hb⟩ := c_Tsawmilllaw30_Log h
 exact ⟨b, rfl, hb⟩
theorem el_Tsawmilllaw30_Log {ecs : List AV} (h : CellsOf shTsawmilllaw30_Log ecs) : ∃ d : Tsawmilllaw30_Log, (shTsawmilllaw30_Log).pack ecs = encTsawmilllaw30_Log d ∧ d.ok := of_Tsawmilllaw30_Log ⟨ecs, rfl, h⟩
structure Tboard_list where
 numbers : (List Int)
 deriving DecidableEq
def Tboard_list.ok (s : Tboard_list) : Prop := (s.numbers.length ≤ 9223372036854775807 ∧ ∀ d, d ∈ s.numbers → I64 d)
structure Tsawmillref05_Reader where
 S_ : ByteArray
 At : Int
 E : Int
 deriving DecidableEq
def Tsawmillref05_Reader.ok (s : Tsawmillref05_Reader) : Prop := s.S_.size ≤ 9223372036854775807 ∧ I64 s.At ∧ I64 s.E
structure TRect where
 X : Sp
 Y : Sp
 deriving DecidableEq
def encTRect (s : TRect) : AV := .agg [(I s.X.a), (I s.X.b), (I s.Y.a), (I s.Y.b)]
def TRect.ok (s : TRect) : Prop := s.X.ok ∧ s.Y.ok
structure Twire_Reader where
 s : ByteArray
 at_ : Int
 e : Int
 deriving DecidableEq
def encTwire_Reader (s : Twire_Reader) : AV := .agg [(S s.s), (I s.at_), (I s.e)]
def Twire_Reader.ok (s : Twire_Reader) : Prop := s.s.size ≤ 9223372036854775807 ∧ I64 s.at_ ∧ I64 s.e
structure Tworth_zone where
 z_ : Sp
 lack : Int
 deriving DecidableEq
def encTworth_zone (s : Tworth_zone) : AV := .agg [(I s.z_.a), (I s.z_.b), (I s.lack)]
def Tworth_zone.ok (s : Tworth_zone) : Prop := s.z_.ok ∧ I64 s.lack
structure Tworth_view where
 product : TProduct
 rect : TRect
 length : Int
 zones : (List Tworth_zone)
 defects : (List Df)
 deriving DecidableEq
def encTworth_view (s : Tworth_view) : AV := .agg [(S s.product.Name), (I s.product.Thick), (I s.product.Width), (I s.product.Allow), (I s.product.Wane), ((encL I) s.product.Lengths), ((encL I) s.product.Prices), (I s.rect.X.a), (I s.rect.X.b), (I s.rect.Y.a), (I s.rect.Y.b), (I s.length), ((encL encTworth_zone) s.zones), ((encL encDf) s.defects)]
def Tworth_view.ok (s : Tworth_view) : Prop := s.product.ok ∧ s.rect.ok ∧ I64 s.length ∧ (s.zones.length ≤ 9223372036854775807 ∧ ∀ d, d ∈ s.zones → d.ok) ∧ (s.defects.length ≤ 9223372036854775807 ∧ ∀ d, d ∈ s.defects → d.ok)
structure Tident_part where
 from_ : Int
 until_ : Int
 ok : Nat
 e : Int
 deriving DecidableEq
def encTident_part (s : Tident_part) : AV := .agg [(I s.from_), (I s.until_), (.clo s.ok [] []), (I s.e)]
end Go.Proofs.YtpoehckffpbfiaaGreat
