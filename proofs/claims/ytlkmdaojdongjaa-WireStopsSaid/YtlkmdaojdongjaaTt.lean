/- The types of the program, as the abstract layer reads them (written by gen_tt.py). -/
import Derived.Test.YtlkmdaojdongjaaAb27
import Derived.Test.YtlkmdaojdongjaaProg
import Derived.KernelRfl
namespace Go.Proofs.Ytlkmdaojdongjaa
open Go Go.Ab

abbrev I (n : Int) : AV := .sc (.int .i64 n)
abbrev B (b : Bool) : AV := .sc (.bool b)
abbrev S (s : ByteArray) : AV := .sc (.string s)

def ty2 : TyD := TyD.mk (TyK.int IntKind.i64) 1 8 (I 0)
def ty3 : TyD := TyD.mk (TyK.int IntKind.i64) 1 8 (I 0)
def ty4 : TyD := TyD.mk TyK.bool 1 1 (B false)
def ty5 : TyD := TyD.mk (TyK.int IntKind.u8) 1 1 (AV.sc (Value.int IntKind.u8 0))
def ty9 : TyD := TyD.mk TyK.str 1 16 (S ⟨#[]⟩)
def ty12 : TyD := TyD.mk (TyK.int IntKind.u64) 1 8 (AV.sc (Value.int IntKind.u64 0))
def ty21 : TyD := TyD.mk (TyK.int IntKind.i32) 1 4 (AV.sc (Value.int IntKind.i32 0))
def ty22 : TyD := TyD.mk (TyK.int IntKind.u64) 1 8 (AV.sc (Value.int IntKind.u64 0))
def ty27 : TyD := TyD.mk (TyK.slice 3) 1 24 AV.nilS
def ty31 : TyD := TyD.mk (TyK.struct [(0, 1), (1, 1), (2, 1), (3, 1)]) 4 32 (AV.agg [AV.sc (Value.int IntKind.u8 0), I 0, I 0, I 0])
def ty32 : TyD := TyD.mk (TyK.struct [(0, 1), (1, 1), (2, 1), (3, 1)]) 4 32 (AV.agg [AV.sc (Value.int IntKind.u8 0), I 0, I 0, I 0])
def ty33 : TyD := TyD.mk TyK.base 1 8 (AV.sc (Value.pointer none))
def ty36 : TyD := TyD.mk (TyK.int IntKind.i64) 1 8 (I 0)
def ty40 : TyD := TyD.mk (TyK.slice 32) 1 24 AV.nilS
def ty41 : TyD := TyD.mk (TyK.struct [(0, 1), (1, 1), (2, 1)]) 3 32 (AV.agg [S ⟨#[]⟩, I 0, I 0])
def ty42 : TyD := TyD.mk (TyK.struct [(0, 1), (1, 1), (2, 1)]) 3 32 (AV.agg [S ⟨#[]⟩, I 0, I 0])
def ty44 : TyD := TyD.mk (TyK.struct [(0, 1), (1, 1), (2, 1), (3, 1), (4, 1)]) 5 64 (AV.agg [AV.sc (Value.int IntKind.u8 0), AV.sc (Value.int IntKind.u64 0), I 0, S ⟨#[]⟩, AV.nilS])
def ty45 : TyD := TyD.mk (TyK.struct [(0, 1), (1, 1), (2, 1), (3, 1), (4, 1)]) 5 64 (AV.agg [AV.sc (Value.int IntKind.u8 0), AV.sc (Value.int IntKind.u64 0), I 0, S ⟨#[]⟩, AV.nilS])
def ty59 : TyD := TyD.mk (TyK.slice 45) 1 24 AV.nilS
def ty65 : TyD := TyD.mk (TyK.int IntKind.u16) 1 2 (AV.sc (Value.int IntKind.u16 0))
def ty68 : TyD := TyD.mk (TyK.slice 5) 1 24 AV.nilS
def ty69 : TyD := TyD.mk (TyK.int IntKind.u64) 1 8 (AV.sc (Value.int IntKind.u64 0))
def ty72 : TyD := TyD.mk TyK.base 1 8 (AV.sc (Value.pointer none))
def ty73 : TyD := TyD.mk (TyK.struct [(0, 1), (1, 1)]) 2 32 (AV.agg [AV.sc (Value.pointer none), AV.nilS])
def ty74 : TyD := TyD.mk (TyK.struct [(0, 1), (1, 1)]) 2 32 (AV.agg [AV.sc (Value.pointer none), AV.nilS])
def ty76 : TyD := TyD.mk TyK.base 1 16 (AV.sc Value.nilIface)
def ty80 : TyD := TyD.mk (TyK.struct [(0, 1), (1, 1), (2, 1)]) 3 32 (AV.agg [S ⟨#[]⟩, I 0, I 0])
def ty81 : TyD := TyD.mk (TyK.struct [(0, 1), (1, 1), (2, 1)]) 3 32 (AV.agg [S ⟨#[]⟩, I 0, I 0])
def ty92 : TyD := TyD.mk TyK.base 1 8 (AV.sc (Value.pointer none))
def ty100 : TyD := TyD.mk (TyK.int IntKind.u32) 1 4 (AV.sc (Value.int IntKind.u32 0))

theorem ty2_ok : tyOf Try.prog 2 = some ty2 := by kernel_rfl
theorem ty3_ok : tyOf Try.prog 3 = some ty3 := by kernel_rfl
theorem ty4_ok : tyOf Try.prog 4 = some ty4 := by kernel_rfl
theorem ty5_ok : tyOf Try.prog 5 = some ty5 := by kernel_rfl
theorem ty9_ok : tyOf Try.prog 9 = some ty9 := by kernel_rfl
theorem ty12_ok : tyOf Try.prog 12 = some ty12 := by kernel_rfl
theorem ty21_ok : tyOf Try.prog 21 = some ty21 := by kernel_rfl
theorem ty22_ok : tyOf Try.prog 22 = some ty22 := by kernel_rfl
theorem ty27_ok : tyOf Try.prog 27 = some ty27 := by kernel_rfl
theorem ty31_ok : tyOf Try.prog 31 = some ty31 := by kernel_rfl
theorem ty32_ok : tyOf Try.prog 32 = some ty32 := by kernel_rfl
theorem ty33_ok : tyOf Try.prog 33 = some ty33 := by kernel_rfl
theorem ty36_ok : tyOf Try.prog 36 = some ty36 := by kernel_rfl
theorem ty40_ok : tyOf Try.prog 40 = some ty40 := by kernel_rfl
theorem ty41_ok : tyOf Try.prog 41 = some ty41 := by kernel_rfl
theorem ty42_ok : tyOf Try.prog 42 = some ty42 := by kernel_rfl
theorem ty44_ok : tyOf Try.prog 44 = some ty44 := by kernel_rfl
theorem ty45_ok : tyOf Try.prog 45 = some ty45 := by kernel_rfl
theorem ty59_ok : tyOf Try.prog 59 = some ty59 := by kernel_rfl
theorem ty65_ok : tyOf Try.prog 65 = some ty65 := by kernel_rfl
theorem ty68_ok : tyOf Try.prog 68 = some ty68 := by kernel_rfl
theorem ty69_ok : tyOf Try.prog 69 = some ty69 := by kernel_rfl
theorem ty72_ok : tyOf Try.prog 72 = some ty72 := by kernel_rfl
theorem ty73_ok : tyOf Try.prog 73 = some ty73 := by kernel_rfl
theorem ty74_ok : tyOf Try.prog 74 = some ty74 := by kernel_rfl
theorem ty76_ok : tyOf Try.prog 76 = some ty76 := by kernel_rfl
theorem ty80_ok : tyOf Try.prog 80 = some ty80 := by kernel_rfl
theorem ty81_ok : tyOf Try.prog 81 = some ty81 := by kernel_rfl
theorem ty92_ok : tyOf Try.prog 92 = some ty92 := by kernel_rfl
theorem ty100_ok : tyOf Try.prog 100 = some ty100 := by kernel_rfl

def tt : TT := [(2, ty2), (3, ty3), (4, ty4), (5, ty5), (9, ty9), (12, ty12), (21, ty21), (22, ty22), (27, ty27), (31, ty31), (32, ty32), (33, ty33), (36, ty36), (40, ty40), (41, ty41), (42, ty42), (44, ty44), (45, ty45), (59, ty59), (65, ty65), (68, ty68), (69, ty69), (72, ty72), (73, ty73), (74, ty74), (76, ty76), (80, ty80), (81, ty81), (92, ty92), (100, ty100)]
theorem ttok : TTok Try.prog tt := ttok_cons ty2_ok (ttok_cons ty3_ok (ttok_cons ty4_ok (ttok_cons ty5_ok (ttok_cons ty9_ok (ttok_cons ty12_ok (ttok_cons ty21_ok (ttok_cons ty22_ok (ttok_cons ty27_ok (ttok_cons ty31_ok (ttok_cons ty32_ok (ttok_cons ty33_ok (ttok_cons ty36_ok (ttok_cons ty40_ok (ttok_cons ty41_ok (ttok_cons ty42_ok (ttok_cons ty44_ok (ttok_cons ty45_ok (ttok_cons ty59_ok (ttok_cons ty65_ok (ttok_cons ty68_ok (ttok_cons ty69_ok (ttok_cons ty72_ok (ttok_cons ty73_ok (ttok_cons ty74_ok (ttok_cons ty76_ok (ttok_cons ty80_ok (ttok_cons ty81_ok (ttok_cons ty92_ok (ttok_cons ty100_ok (ttok_nil _))))))))))))))))))))))))))))))
theorem nd {p : Prop} : (false = true) → p := fun h => by cases h
theorem hmix : Try.prog.follows .mixedOrders = true := by kernel_rfl
theorem fn3 : FnOK Try.prog 3 := ⟨_, Try.func3, by kernel_rfl, rfl⟩
theorem fn4 : FnOK Try.prog 4 := ⟨_, Try.func4, by kernel_rfl, rfl⟩
theorem fn5 : FnOK Try.prog 5 := ⟨_, Try.func5, by kernel_rfl, rfl⟩
theorem fn6 : FnOK Try.prog 6 := ⟨_, Try.func6, by kernel_rfl, rfl⟩
theorem fn7 : FnOK Try.prog 7 := ⟨_, Try.func7, by kernel_rfl, rfl⟩
theorem fn8 : FnOK Try.prog 8 := ⟨_, Try.func8, by kernel_rfl, rfl⟩
theorem fn9 : FnOK Try.prog 9 := ⟨_, Try.func9, by kernel_rfl, rfl⟩
theorem fn10 : FnOK Try.prog 10 := ⟨_, Try.func10, by kernel_rfl, rfl⟩
theorem fn11 : FnOK Try.prog 11 := ⟨_, Try.func11, by kernel_rfl, rfl⟩
theorem fn12 : FnOK Try.prog 12 := ⟨_, Try.func12, by kernel_rfl, rfl⟩
theorem fn13 : FnOK Try.prog 13 := ⟨_, Try.func13, by kernel_rfl, rfl⟩
theorem fn14 : FnOK Try.prog 14 := ⟨_, Try.func14, by kernel_rfl, rfl⟩
theorem fn15 : FnOK Try.prog 15 := ⟨_, Try.func15, by kernel_rfl, rfl⟩
theorem fn16 : FnOK Try.prog 16 := ⟨_, Try.func16, by kernel_rfl, rfl⟩
theorem fn17 : FnOK Try.prog 17 := ⟨_, Try.func17, by kernel_rfl, rfl⟩
theorem fn18 : FnOK Try.prog 18 := ⟨_, Try.func18, by kernel_rfl, rfl⟩
theorem fn19 : FnOK Try.prog 19 := ⟨_, Try.func19, by kernel_rfl, rfl⟩
theorem fn20 : FnOK Try.prog 20 := ⟨_, Try.func20, by kernel_rfl, rfl⟩
theorem fn21 : FnOK Try.prog 21 := ⟨_, Try.func21, by kernel_rfl, rfl⟩
theorem fn22 : FnOK Try.prog 22 := ⟨_, Try.func22, by kernel_rfl, rfl⟩
theorem fn23 : FnOK Try.prog 23 := ⟨_, Try.func23, by kernel_rfl, rfl⟩
theorem fn24 : FnOK Try.prog 24 := ⟨_, Try.func24, by kernel_rfl, rfl⟩
theorem fn25 : FnOK Try.prog 25 := ⟨_, Try.func25, by kernel_rfl, rfl⟩
theorem fn26 : FnOK Try.prog 26 := ⟨_, Try.func26, by kernel_rfl, rfl⟩
theorem fn27 : FnOK Try.prog 27 := ⟨_, Try.func27, by kernel_rfl, rfl⟩
theorem fn28 : FnOK Try.prog 28 := ⟨_, Try.func28, by kernel_rfl, rfl⟩
theorem fn29 : FnOK Try.prog 29 := ⟨_, Try.func29, by kernel_rfl, rfl⟩
theorem fn30 : FnOK Try.prog 30 := ⟨_, Try.func30, by kernel_rfl, rfl⟩
theorem fn31 : FnOK Try.prog 31 := ⟨_, Try.func31, by kernel_rfl, rfl⟩
theorem fn32 : FnOK Try.prog 32 := ⟨_, Try.func32, by kernel_rfl, rfl⟩
theorem fn33 : FnOK Try.prog 33 := ⟨_, Try.func33, by kernel_rfl, rfl⟩
theorem fn34 : FnOK Try.prog 34 := ⟨_, Try.func34, by kernel_rfl, rfl⟩
theorem fn35 : FnOK Try.prog 35 := ⟨_, Try.func35, by kernel_rfl, rfl⟩
theorem fn36 : FnOK Try.prog 36 := ⟨_, Try.func36, by kernel_rfl, rfl⟩
theorem fn37 : FnOK Try.prog 37 := ⟨_, Try.func37, by kernel_rfl, rfl⟩
theorem fn38 : FnOK Try.prog 38 := ⟨_, Try.func38, by kernel_rfl, rfl⟩
theorem fn39 : FnOK Try.prog 39 := ⟨_, Try.func39, by kernel_rfl, rfl⟩
theorem fn40 : FnOK Try.prog 40 := ⟨_, Try.func40, by kernel_rfl, rfl⟩
theorem fn41 : FnOK Try.prog 41 := ⟨_, Try.func41, by kernel_rfl, rfl⟩
theorem fn42 : FnOK Try.prog 42 := ⟨_, Try.func42, by kernel_rfl, rfl⟩
theorem fn43 : FnOK Try.prog 43 := ⟨_, Try.func43, by kernel_rfl, rfl⟩
theorem fn44 : FnOK Try.prog 44 := ⟨_, Try.func44, by kernel_rfl, rfl⟩
theorem fn45 : FnOK Try.prog 45 := ⟨_, Try.func45, by kernel_rfl, rfl⟩
theorem fn46 : FnOK Try.prog 46 := ⟨_, Try.func46, by kernel_rfl, rfl⟩
theorem fn47 : FnOK Try.prog 47 := ⟨_, Try.func47, by kernel_rfl, rfl⟩
theorem fn48 : FnOK Try.prog 48 := ⟨_, Try.func48, by kernel_rfl, rfl⟩
theorem fn49 : FnOK Try.prog 49 := ⟨_, Try.func49, by kernel_rfl, rfl⟩
theorem fn50 : FnOK Try.prog 50 := ⟨_, Try.func50, by kernel_rfl, rfl⟩
theorem fn51 : FnOK Try.prog 51 := ⟨_, Try.func51, by kernel_rfl, rfl⟩
theorem fn52 : FnOK Try.prog 52 := ⟨_, Try.func52, by kernel_rfl, rfl⟩
theorem fn53 : FnOK Try.prog 53 := ⟨_, Try.func53, by kernel_rfl, rfl⟩
theorem fn54 : FnOK Try.prog 54 := ⟨_, Try.func54, by kernel_rfl, rfl⟩

end Go.Proofs.Ytlkmdaojdongjaa
