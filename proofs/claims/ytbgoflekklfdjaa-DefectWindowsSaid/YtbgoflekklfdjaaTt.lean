/- The types of the program, as the abstract layer reads them (written by gen_tt.py). -/
import Derived.Test.YtbgoflekklfdjaaAb27
import Derived.Test.YtbgoflekklfdjaaProg
import Derived.KernelRfl
namespace Go.Proofs.Ytbgoflekklfdjaa
open Go Go.Ab

abbrev I (n : Int) : AV := .sc (.int .i64 n)
abbrev B (b : Bool) : AV := .sc (.bool b)
abbrev S (s : ByteArray) : AV := .sc (.string s)

def ty2 : TyD := TyD.mk (TyK.int IntKind.i64) 1 8 (I 0)
def ty3 : TyD := TyD.mk (TyK.int IntKind.i64) 1 8 (I 0)
def ty4 : TyD := TyD.mk TyK.bool 1 1 (B false)
def ty5 : TyD := TyD.mk (TyK.int IntKind.u8) 1 1 (AV.sc (Value.int IntKind.u8 0))
def ty9 : TyD := TyD.mk TyK.str 1 16 (S ⟨#[]⟩)
def ty12 : TyD := TyD.mk (TyK.int IntKind.u64) 1 8 (AV.sc (Value.int IntKind.u64 0))
def ty21 : TyD := TyD.mk (TyK.int IntKind.i32) 1 4 (AV.sc (Value.int IntKind.i32 0))
def ty22 : TyD := TyD.mk (TyK.struct [(0, 1), (1, 1)]) 2 16 (AV.agg [I 0, I 0])
def ty23 : TyD := TyD.mk (TyK.struct [(0, 1), (1, 1)]) 2 16 (AV.agg [I 0, I 0])
def ty24 : TyD := TyD.mk (TyK.struct [(0, 2), (2, 2), (4, 2)]) 6 48 (AV.agg [I 0, I 0, I 0, I 0, I 0, I 0])
def ty25 : TyD := TyD.mk (TyK.struct [(0, 2), (2, 2), (4, 2)]) 6 48 (AV.agg [I 0, I 0, I 0, I 0, I 0, I 0])
def ty26 : TyD := TyD.mk (TyK.slice 41) 1 24 AV.nilS
def ty27 : TyD := TyD.mk (TyK.struct [(0, 1), (1, 1), (2, 1)]) 3 24 (AV.agg [I 0, I 0, I 0])
def ty28 : TyD := TyD.mk (TyK.struct [(0, 1), (1, 1), (2, 1)]) 3 24 (AV.agg [I 0, I 0, I 0])
def ty29 : TyD := TyD.mk (TyK.struct [(0, 1), (1, 1), (2, 1), (3, 1), (4, 6), (10, 1), (11, 1), (12, 1), (13, 3), (16, 1), (17, 1)]) 18 184 (AV.agg [S ⟨#[]⟩, S ⟨#[]⟩, S ⟨#[]⟩, I 0, I 0, I 0, I 0, I 0, I 0, I 0, I 0, AV.nilS, I 0, I 0, I 0, I 0, B false, I 0])
def ty30 : TyD := TyD.mk (TyK.struct [(0, 1), (1, 1), (2, 1), (3, 1), (4, 6), (10, 1), (11, 1), (12, 1), (13, 3), (16, 1), (17, 1)]) 18 184 (AV.agg [S ⟨#[]⟩, S ⟨#[]⟩, S ⟨#[]⟩, I 0, I 0, I 0, I 0, I 0, I 0, I 0, I 0, AV.nilS, I 0, I 0, I 0, I 0, B false, I 0])
def ty31 : TyD := TyD.mk (TyK.struct [(0, 1), (1, 1), (2, 1), (3, 1), (4, 1), (5, 1), (6, 1), (7, 1), (8, 1), (9, 1), (10, 1), (11, 1), (12, 1)]) 13 112 (AV.agg [S ⟨#[]⟩, I 0, I 0, I 0, I 0, I 0, I 0, I 0, I 0, I 0, I 0, I 0, I 0])
def ty32 : TyD := TyD.mk (TyK.struct [(0, 1), (1, 1), (2, 1), (3, 1), (4, 1), (5, 1), (6, 1), (7, 1), (8, 1), (9, 1), (10, 1), (11, 1), (12, 1)]) 13 112 (AV.agg [S ⟨#[]⟩, I 0, I 0, I 0, I 0, I 0, I 0, I 0, I 0, I 0, I 0, I 0, I 0])
def ty40 : TyD := TyD.mk (TyK.struct [(0, 1), (1, 6)]) 7 56 (AV.agg [I 0, I 0, I 0, I 0, I 0, I 0, I 0])
def ty41 : TyD := TyD.mk (TyK.struct [(0, 1), (1, 6)]) 7 56 (AV.agg [I 0, I 0, I 0, I 0, I 0, I 0, I 0])
def ty42 : TyD := TyD.mk (TyK.int IntKind.i64) 1 8 (I 0)
def ty62 : TyD := TyD.mk (TyK.array 2 3) 2 16 (AV.agg [I 0, I 0])
def ty67 : TyD := TyD.mk (TyK.slice 32) 1 24 AV.nilS
def ty71 : TyD := TyD.mk (TyK.slice 3) 1 24 AV.nilS
def ty76 : TyD := TyD.mk (TyK.array 3 23) 6 48 (AV.agg [I 0, I 0, I 0, I 0, I 0, I 0])
def ty86 : TyD := TyD.mk (TyK.int IntKind.u64) 1 8 (AV.sc (Value.int IntKind.u64 0))
def ty97 : TyD := TyD.mk (TyK.int IntKind.u32) 1 4 (AV.sc (Value.int IntKind.u32 0))
def ty101 : TyD := TyD.mk TyK.base 1 8 (AV.sc (Value.pointer none))

theorem ty2_ok : tyOf Try.prog 2 = some ty2 := by kernel_rfl
theorem ty3_ok : tyOf Try.prog 3 = some ty3 := by kernel_rfl
theorem ty4_ok : tyOf Try.prog 4 = some ty4 := by kernel_rfl
theorem ty5_ok : tyOf Try.prog 5 = some ty5 := by kernel_rfl
theorem ty9_ok : tyOf Try.prog 9 = some ty9 := by kernel_rfl
theorem ty12_ok : tyOf Try.prog 12 = some ty12 := by kernel_rfl
theorem ty21_ok : tyOf Try.prog 21 = some ty21 := by kernel_rfl
theorem ty22_ok : tyOf Try.prog 22 = some ty22 := by kernel_rfl
theorem ty23_ok : tyOf Try.prog 23 = some ty23 := by kernel_rfl
theorem ty24_ok : tyOf Try.prog 24 = some ty24 := by kernel_rfl
theorem ty25_ok : tyOf Try.prog 25 = some ty25 := by kernel_rfl
theorem ty26_ok : tyOf Try.prog 26 = some ty26 := by kernel_rfl
theorem ty27_ok : tyOf Try.prog 27 = some ty27 := by kernel_rfl
theorem ty28_ok : tyOf Try.prog 28 = some ty28 := by kernel_rfl
theorem ty29_ok : tyOf Try.prog 29 = some ty29 := by kernel_rfl
theorem ty30_ok : tyOf Try.prog 30 = some ty30 := by kernel_rfl
theorem ty31_ok : tyOf Try.prog 31 = some ty31 := by kernel_rfl
theorem ty32_ok : tyOf Try.prog 32 = some ty32 := by kernel_rfl
theorem ty40_ok : tyOf Try.prog 40 = some ty40 := by kernel_rfl
theorem ty41_ok : tyOf Try.prog 41 = some ty41 := by kernel_rfl
theorem ty42_ok : tyOf Try.prog 42 = some ty42 := by kernel_rfl
theorem ty62_ok : tyOf Try.prog 62 = some ty62 := by kernel_rfl
theorem ty67_ok : tyOf Try.prog 67 = some ty67 := by kernel_rfl
theorem ty71_ok : tyOf Try.prog 71 = some ty71 := by kernel_rfl
theorem ty76_ok : tyOf Try.prog 76 = some ty76 := by kernel_rfl
theorem ty86_ok : tyOf Try.prog 86 = some ty86 := by kernel_rfl
theorem ty97_ok : tyOf Try.prog 97 = some ty97 := by kernel_rfl
theorem ty101_ok : tyOf Try.prog 101 = some ty101 := by kernel_rfl

def tt : TT := [(2, ty2), (3, ty3), (4, ty4), (5, ty5), (9, ty9), (12, ty12), (21, ty21), (22, ty22), (23, ty23), (24, ty24), (25, ty25), (26, ty26), (27, ty27), (28, ty28), (29, ty29), (30, ty30), (31, ty31), (32, ty32), (40, ty40), (41, ty41), (42, ty42), (62, ty62), (67, ty67), (71, ty71), (76, ty76), (86, ty86), (97, ty97), (101, ty101)]
theorem ttok : TTok Try.prog tt := ttok_cons ty2_ok (ttok_cons ty3_ok (ttok_cons ty4_ok (ttok_cons ty5_ok (ttok_cons ty9_ok (ttok_cons ty12_ok (ttok_cons ty21_ok (ttok_cons ty22_ok (ttok_cons ty23_ok (ttok_cons ty24_ok (ttok_cons ty25_ok (ttok_cons ty26_ok (ttok_cons ty27_ok (ttok_cons ty28_ok (ttok_cons ty29_ok (ttok_cons ty30_ok (ttok_cons ty31_ok (ttok_cons ty32_ok (ttok_cons ty40_ok (ttok_cons ty41_ok (ttok_cons ty42_ok (ttok_cons ty62_ok (ttok_cons ty67_ok (ttok_cons ty71_ok (ttok_cons ty76_ok (ttok_cons ty86_ok (ttok_cons ty97_ok (ttok_cons ty101_ok (ttok_nil _))))))))))))))))))))))))))))
theorem nd {p : Prop} : (false = true) → p := fun h => by cases h
theorem hmix : Try.prog.follows .mixedOrders = true := by kernel_rfl
theorem fn3 : FnOK Try.prog 3 := ⟨_, Try.func3, by kernel_rfl, rfl⟩
theorem fn4 : FnOK Try.prog 4 := ⟨_, Try.func4, by kernel_rfl, rfl⟩
theorem fn5 : FnOK Try.prog 5 := ⟨_, Try.func5, by kernel_rfl, rfl⟩
theorem fn6 : FnOK Try.prog 6 := ⟨_, Try.func6, by kernel_rfl, rfl⟩
theorem fn7 : FnOK Try.prog 7 := ⟨_, Try.func7, by kernel_rfl, rfl⟩
theorem fn8 : FnOK Try.prog 8 := ⟨_, Try.func8, by kernel_rfl, rfl⟩
theorem fn9 : FnOK Try.prog 9 := ⟨_, Try.func9, by kernel_rfl, rfl⟩
theorem fn10 : FnOK Try.prog 10 := ⟨_, Try.func10, by kernel_rfl, rfl⟩
theorem fn11 : FnOK Try.prog 11 := ⟨_, Try.func11, by kernel_rfl, rfl⟩
theorem fn12 : FnOK Try.prog 12 := ⟨_, Try.func12, by kernel_rfl, rfl⟩
theorem fn13 : FnOK Try.prog 13 := ⟨_, Try.func13, by kernel_rfl, rfl⟩
theorem fn14 : FnOK Try.prog 14 := ⟨_, Try.func14, by kernel_rfl, rfl⟩
theorem fn15 : FnOK Try.prog 15 := ⟨_, Try.func15, by kernel_rfl, rfl⟩
theorem fn16 : FnOK Try.prog 16 := ⟨_, Try.func16, by kernel_rfl, rfl⟩
theorem fn17 : FnOK Try.prog 17 := ⟨_, Try.func17, by kernel_rfl, rfl⟩
theorem fn18 : FnOK Try.prog 18 := ⟨_, Try.func18, by kernel_rfl, rfl⟩
theorem fn19 : FnOK Try.prog 19 := ⟨_, Try.func19, by kernel_rfl, rfl⟩
theorem fn20 : FnOK Try.prog 20 := ⟨_, Try.func20, by kernel_rfl, rfl⟩
theorem fn21 : FnOK Try.prog 21 := ⟨_, Try.func21, by kernel_rfl, rfl⟩
theorem fn22 : FnOK Try.prog 22 := ⟨_, Try.func22, by kernel_rfl, rfl⟩
theorem fn23 : FnOK Try.prog 23 := ⟨_, Try.func23, by kernel_rfl, rfl⟩
theorem fn24 : FnOK Try.prog 24 := ⟨_, Try.func24, by kernel_rfl, rfl⟩
theorem fn25 : FnOK Try.prog 25 := ⟨_, Try.func25, by kernel_rfl, rfl⟩
theorem fn26 : FnOK Try.prog 26 := ⟨_, Try.func26, by kernel_rfl, rfl⟩
theorem fn27 : FnOK Try.prog 27 := ⟨_, Try.func27, by kernel_rfl, rfl⟩
theorem fn28 : FnOK Try.prog 28 := ⟨_, Try.func28, by kernel_rfl, rfl⟩
theorem fn29 : FnOK Try.prog 29 := ⟨_, Try.func29, by kernel_rfl, rfl⟩
theorem fn30 : FnOK Try.prog 30 := ⟨_, Try.func30, by kernel_rfl, rfl⟩
theorem fn31 : FnOK Try.prog 31 := ⟨_, Try.func31, by kernel_rfl, rfl⟩
theorem fn32 : FnOK Try.prog 32 := ⟨_, Try.func32, by kernel_rfl, rfl⟩
theorem fn33 : FnOK Try.prog 33 := ⟨_, Try.func33, by kernel_rfl, rfl⟩
theorem fn34 : FnOK Try.prog 34 := ⟨_, Try.func34, by kernel_rfl, rfl⟩
theorem fn35 : FnOK Try.prog 35 := ⟨_, Try.func35, by kernel_rfl, rfl⟩
theorem fn36 : FnOK Try.prog 36 := ⟨_, Try.func36, by kernel_rfl, rfl⟩
theorem fn37 : FnOK Try.prog 37 := ⟨_, Try.func37, by kernel_rfl, rfl⟩
theorem fn38 : FnOK Try.prog 38 := ⟨_, Try.func38, by kernel_rfl, rfl⟩
theorem fn39 : FnOK Try.prog 39 := ⟨_, Try.func39, by kernel_rfl, rfl⟩
theorem fn40 : FnOK Try.prog 40 := ⟨_, Try.func40, by kernel_rfl, rfl⟩
theorem fn41 : FnOK Try.prog 41 := ⟨_, Try.func41, by kernel_rfl, rfl⟩
theorem fn42 : FnOK Try.prog 42 := ⟨_, Try.func42, by kernel_rfl, rfl⟩
theorem fn43 : FnOK Try.prog 43 := ⟨_, Try.func43, by kernel_rfl, rfl⟩
theorem fn44 : FnOK Try.prog 44 := ⟨_, Try.func44, by kernel_rfl, rfl⟩
theorem fn45 : FnOK Try.prog 45 := ⟨_, Try.func45, by kernel_rfl, rfl⟩
theorem fn46 : FnOK Try.prog 46 := ⟨_, Try.func46, by kernel_rfl, rfl⟩
theorem fn47 : FnOK Try.prog 47 := ⟨_, Try.func47, by kernel_rfl, rfl⟩
theorem fn48 : FnOK Try.prog 48 := ⟨_, Try.func48, by kernel_rfl, rfl⟩
theorem fn49 : FnOK Try.prog 49 := ⟨_, Try.func49, by kernel_rfl, rfl⟩
theorem fn50 : FnOK Try.prog 50 := ⟨_, Try.func50, by kernel_rfl, rfl⟩
theorem fn51 : FnOK Try.prog 51 := ⟨_, Try.func51, by kernel_rfl, rfl⟩
theorem fn52 : FnOK Try.prog 52 := ⟨_, Try.func52, by kernel_rfl, rfl⟩
theorem fn53 : FnOK Try.prog 53 := ⟨_, Try.func53, by kernel_rfl, rfl⟩
theorem fn54 : FnOK Try.prog 54 := ⟨_, Try.func54, by kernel_rfl, rfl⟩
theorem fn55 : FnOK Try.prog 55 := ⟨_, Try.func55, by kernel_rfl, rfl⟩
theorem fn56 : FnOK Try.prog 56 := ⟨_, Try.func56, by kernel_rfl, rfl⟩
theorem fn57 : FnOK Try.prog 57 := ⟨_, Try.func57, by kernel_rfl, rfl⟩
theorem fn58 : FnOK Try.prog 58 := ⟨_, Try.func58, by kernel_rfl, rfl⟩
theorem fn59 : FnOK Try.prog 59 := ⟨_, Try.func59, by kernel_rfl, rfl⟩
theorem fn60 : FnOK Try.prog 60 := ⟨_, Try.func60, by kernel_rfl, rfl⟩
theorem fn61 : FnOK Try.prog 61 := ⟨_, Try.func61, by kernel_rfl, rfl⟩
theorem fn62 : FnOK Try.prog 62 := ⟨_, Try.func62, by kernel_rfl, rfl⟩
theorem fn63 : FnOK Try.prog 63 := ⟨_, Try.func63, by kernel_rfl, rfl⟩
theorem fn64 : FnOK Try.prog 64 := ⟨_, Try.func64, by kernel_rfl, rfl⟩
theorem fn65 : FnOK Try.prog 65 := ⟨_, Try.func65, by kernel_rfl, rfl⟩
theorem fn66 : FnOK Try.prog 66 := ⟨_, Try.func66, by kernel_rfl, rfl⟩
theorem fn67 : FnOK Try.prog 67 := ⟨_, Try.func67, by kernel_rfl, rfl⟩
theorem fn68 : FnOK Try.prog 68 := ⟨_, Try.func68, by kernel_rfl, rfl⟩
theorem fn69 : FnOK Try.prog 69 := ⟨_, Try.func69, by kernel_rfl, rfl⟩
theorem fn70 : FnOK Try.prog 70 := ⟨_, Try.func70, by kernel_rfl, rfl⟩
theorem fn71 : FnOK Try.prog 71 := ⟨_, Try.func71, by kernel_rfl, rfl⟩
theorem fn72 : FnOK Try.prog 72 := ⟨_, Try.func72, by kernel_rfl, rfl⟩
theorem fn73 : FnOK Try.prog 73 := ⟨_, Try.func73, by kernel_rfl, rfl⟩
theorem fn74 : FnOK Try.prog 74 := ⟨_, Try.func74, by kernel_rfl, rfl⟩
theorem fn75 : FnOK Try.prog 75 := ⟨_, Try.func75, by kernel_rfl, rfl⟩
theorem fn76 : FnOK Try.prog 76 := ⟨_, Try.func76, by kernel_rfl, rfl⟩
theorem fn77 : FnOK Try.prog 77 := ⟨_, Try.func77, by kernel_rfl, rfl⟩
theorem fn78 : FnOK Try.prog 78 := ⟨_, Try.func78, by kernel_rfl, rfl⟩
theorem fn79 : FnOK Try.prog 79 := ⟨_, Try.func79, by kernel_rfl, rfl⟩
theorem fn80 : FnOK Try.prog 80 := ⟨_, Try.func80, by kernel_rfl, rfl⟩
theorem fn81 : FnOK Try.prog 81 := ⟨_, Try.func81, by kernel_rfl, rfl⟩

end Go.Proofs.Ytbgoflekklfdjaa
