/- The types of the program, as the abstract layer reads them (written by gen_tt.py). -/
import Derived.Test.YtjdgaclkcmjjcaaAb27
import Derived.Test.YtjdgaclkcmjjcaaProg
import Derived.KernelRfl
namespace Go.Proofs.Ytjdgaclkcmjjcaa
open Go Go.Ab

abbrev I (n : Int) : AV := .sc (.int .i64 n)
abbrev B (b : Bool) : AV := .sc (.bool b)
abbrev S (s : ByteArray) : AV := .sc (.string s)

def ty2 : TyD := TyD.mk (TyK.int IntKind.i64) 1 8 (I 0)
def ty3 : TyD := TyD.mk (TyK.int IntKind.i64) 1 8 (I 0)
def ty4 : TyD := TyD.mk TyK.bool 1 1 (B false)
def ty5 : TyD := TyD.mk (TyK.int IntKind.u8) 1 1 (AV.sc (Value.int IntKind.u8 0))
def ty9 : TyD := TyD.mk TyK.str 1 16 (S ⟨#[]⟩)
def ty12 : TyD := TyD.mk (TyK.int IntKind.u64) 1 8 (AV.sc (Value.int IntKind.u64 0))
def ty21 : TyD := TyD.mk (TyK.int IntKind.i32) 1 4 (AV.sc (Value.int IntKind.i32 0))
def ty22 : TyD := TyD.mk (TyK.struct [(0, 1), (1, 1), (2, 1), (3, 1)]) 4 32 (AV.agg [I 0, I 0, I 0, I 0])
def ty23 : TyD := TyD.mk (TyK.struct [(0, 1), (1, 1), (2, 1), (3, 1)]) 4 32 (AV.agg [I 0, I 0, I 0, I 0])
def ty24 : TyD := TyD.mk (TyK.struct [(0, 1), (1, 1), (2, 1)]) 3 24 (AV.agg [I 0, I 0, I 0])
def ty25 : TyD := TyD.mk (TyK.struct [(0, 1), (1, 1), (2, 1)]) 3 24 (AV.agg [I 0, I 0, I 0])
def ty26 : TyD := TyD.mk (TyK.int IntKind.i64) 1 8 (I 0)
def ty30 : TyD := TyD.mk (TyK.slice 67) 1 24 AV.nilS
def ty31 : TyD := TyD.mk (TyK.struct [(0, 1), (1, 1)]) 2 16 (AV.agg [I 0, I 0])
def ty32 : TyD := TyD.mk (TyK.struct [(0, 1), (1, 1)]) 2 16 (AV.agg [I 0, I 0])
def ty33 : TyD := TyD.mk (TyK.struct [(0, 2), (2, 2), (4, 2)]) 6 48 (AV.agg [I 0, I 0, I 0, I 0, I 0, I 0])
def ty34 : TyD := TyD.mk (TyK.struct [(0, 2), (2, 2), (4, 2)]) 6 48 (AV.agg [I 0, I 0, I 0, I 0, I 0, I 0])
def ty36 : TyD := TyD.mk (TyK.slice 61) 1 24 AV.nilS
def ty37 : TyD := TyD.mk (TyK.slice 3) 1 24 AV.nilS
def ty38 : TyD := TyD.mk (TyK.struct [(0, 1), (1, 1), (2, 1), (3, 1), (4, 1), (5, 1), (6, 1)]) 7 96 (AV.agg [S ⟨#[]⟩, I 0, I 0, I 0, I 0, AV.nilS, AV.nilS])
def ty39 : TyD := TyD.mk (TyK.struct [(0, 1), (1, 1), (2, 1), (3, 1), (4, 1), (5, 1), (6, 1)]) 7 96 (AV.agg [S ⟨#[]⟩, I 0, I 0, I 0, I 0, AV.nilS, AV.nilS])
def ty40 : TyD := TyD.mk (TyK.struct [(0, 1), (1, 1), (2, 7), (9, 1)]) 10 152 (AV.agg [AV.nilS, AV.nilS, S ⟨#[]⟩, I 0, I 0, I 0, I 0, AV.nilS, AV.nilS, I 0])
def ty41 : TyD := TyD.mk (TyK.struct [(0, 1), (1, 1), (2, 7), (9, 1)]) 10 152 (AV.agg [AV.nilS, AV.nilS, S ⟨#[]⟩, I 0, I 0, I 0, I 0, AV.nilS, AV.nilS, I 0])
def ty49 : TyD := TyD.mk (TyK.struct [(0, 2), (2, 2)]) 4 32 (AV.agg [I 0, I 0, I 0, I 0])
def ty50 : TyD := TyD.mk (TyK.struct [(0, 2), (2, 2)]) 4 32 (AV.agg [I 0, I 0, I 0, I 0])
def ty56 : TyD := TyD.mk (TyK.array 3 3) 3 24 (AV.agg [I 0, I 0, I 0])
def ty57 : TyD := TyD.mk (TyK.int IntKind.u64) 1 8 (AV.sc (Value.int IntKind.u64 0))
def ty60 : TyD := TyD.mk (TyK.struct [(0, 1), (1, 6)]) 7 56 (AV.agg [I 0, I 0, I 0, I 0, I 0, I 0, I 0])
def ty61 : TyD := TyD.mk (TyK.struct [(0, 1), (1, 6)]) 7 56 (AV.agg [I 0, I 0, I 0, I 0, I 0, I 0, I 0])
def ty63 : TyD := TyD.mk (TyK.slice 32) 1 24 AV.nilS
def ty64 : TyD := TyD.mk (TyK.struct [(0, 1), (1, 1)]) 2 32 (AV.agg [I 0, AV.nilS])
def ty65 : TyD := TyD.mk (TyK.struct [(0, 1), (1, 1)]) 2 32 (AV.agg [I 0, AV.nilS])
def ty66 : TyD := TyD.mk (TyK.struct [(0, 1), (1, 2)]) 3 40 (AV.agg [I 0, I 0, AV.nilS])
def ty67 : TyD := TyD.mk (TyK.struct [(0, 1), (1, 2)]) 3 40 (AV.agg [I 0, I 0, AV.nilS])
def ty78 : TyD := TyD.mk (TyK.slice 90) 1 24 AV.nilS
def ty88 : TyD := TyD.mk (TyK.array 2 32) 4 32 (AV.agg [I 0, I 0, I 0, I 0])
def ty89 : TyD := TyD.mk (TyK.struct [(0, 2), (2, 1)]) 3 24 (AV.agg [I 0, I 0, I 0])
def ty90 : TyD := TyD.mk (TyK.struct [(0, 2), (2, 1)]) 3 24 (AV.agg [I 0, I 0, I 0])
def ty93 : TyD := TyD.mk (TyK.struct [(0, 7), (7, 4), (11, 1), (12, 1), (13, 1)]) 14 184 (AV.agg [S ⟨#[]⟩, I 0, I 0, I 0, I 0, AV.nilS, AV.nilS, I 0, I 0, I 0, I 0, I 0, AV.nilS, AV.nilS])
def ty94 : TyD := TyD.mk (TyK.struct [(0, 7), (7, 4), (11, 1), (12, 1), (13, 1)]) 14 184 (AV.agg [S ⟨#[]⟩, I 0, I 0, I 0, I 0, AV.nilS, AV.nilS, I 0, I 0, I 0, I 0, I 0, AV.nilS, AV.nilS])
def ty101 : TyD := TyD.mk (TyK.slice 39) 1 24 AV.nilS
def ty105 : TyD := TyD.mk (TyK.int IntKind.u64) 1 8 (AV.sc (Value.int IntKind.u64 0))
def ty112 : TyD := TyD.mk (TyK.array 2 3) 2 16 (AV.agg [I 0, I 0])
def ty133 : TyD := TyD.mk (TyK.int IntKind.u32) 1 4 (AV.sc (Value.int IntKind.u32 0))
def ty137 : TyD := TyD.mk TyK.base 1 8 (AV.sc (Value.pointer none))

theorem ty2_ok : tyOf Try.prog 2 = some ty2 := by kernel_rfl
theorem ty3_ok : tyOf Try.prog 3 = some ty3 := by kernel_rfl
theorem ty4_ok : tyOf Try.prog 4 = some ty4 := by kernel_rfl
theorem ty5_ok : tyOf Try.prog 5 = some ty5 := by kernel_rfl
theorem ty9_ok : tyOf Try.prog 9 = some ty9 := by kernel_rfl
theorem ty12_ok : tyOf Try.prog 12 = some ty12 := by kernel_rfl
theorem ty21_ok : tyOf Try.prog 21 = some ty21 := by kernel_rfl
theorem ty22_ok : tyOf Try.prog 22 = some ty22 := by kernel_rfl
theorem ty23_ok : tyOf Try.prog 23 = some ty23 := by kernel_rfl
theorem ty24_ok : tyOf Try.prog 24 = some ty24 := by kernel_rfl
theorem ty25_ok : tyOf Try.prog 25 = some ty25 := by kernel_rfl
theorem ty26_ok : tyOf Try.prog 26 = some ty26 := by kernel_rfl
theorem ty30_ok : tyOf Try.prog 30 = some ty30 := by kernel_rfl
theorem ty31_ok : tyOf Try.prog 31 = some ty31 := by kernel_rfl
theorem ty32_ok : tyOf Try.prog 32 = some ty32 := by kernel_rfl
theorem ty33_ok : tyOf Try.prog 33 = some ty33 := by kernel_rfl
theorem ty34_ok : tyOf Try.prog 34 = some ty34 := by kernel_rfl
theorem ty36_ok : tyOf Try.prog 36 = some ty36 := by kernel_rfl
theorem ty37_ok : tyOf Try.prog 37 = some ty37 := by kernel_rfl
theorem ty38_ok : tyOf Try.prog 38 = some ty38 := by kernel_rfl
theorem ty39_ok : tyOf Try.prog 39 = some ty39 := by kernel_rfl
theorem ty40_ok : tyOf Try.prog 40 = some ty40 := by kernel_rfl
theorem ty41_ok : tyOf Try.prog 41 = some ty41 := by kernel_rfl
theorem ty49_ok : tyOf Try.prog 49 = some ty49 := by kernel_rfl
theorem ty50_ok : tyOf Try.prog 50 = some ty50 := by kernel_rfl
theorem ty56_ok : tyOf Try.prog 56 = some ty56 := by kernel_rfl
theorem ty57_ok : tyOf Try.prog 57 = some ty57 := by kernel_rfl
theorem ty60_ok : tyOf Try.prog 60 = some ty60 := by kernel_rfl
theorem ty61_ok : tyOf Try.prog 61 = some ty61 := by kernel_rfl
theorem ty63_ok : tyOf Try.prog 63 = some ty63 := by kernel_rfl
theorem ty64_ok : tyOf Try.prog 64 = some ty64 := by kernel_rfl
theorem ty65_ok : tyOf Try.prog 65 = some ty65 := by kernel_rfl
theorem ty66_ok : tyOf Try.prog 66 = some ty66 := by kernel_rfl
theorem ty67_ok : tyOf Try.prog 67 = some ty67 := by kernel_rfl
theorem ty78_ok : tyOf Try.prog 78 = some ty78 := by kernel_rfl
theorem ty88_ok : tyOf Try.prog 88 = some ty88 := by kernel_rfl
theorem ty89_ok : tyOf Try.prog 89 = some ty89 := by kernel_rfl
theorem ty90_ok : tyOf Try.prog 90 = some ty90 := by kernel_rfl
theorem ty93_ok : tyOf Try.prog 93 = some ty93 := by kernel_rfl
theorem ty94_ok : tyOf Try.prog 94 = some ty94 := by kernel_rfl
theorem ty101_ok : tyOf Try.prog 101 = some ty101 := by kernel_rfl
theorem ty105_ok : tyOf Try.prog 105 = some ty105 := by kernel_rfl
theorem ty112_ok : tyOf Try.prog 112 = some ty112 := by kernel_rfl
theorem ty133_ok : tyOf Try.prog 133 = some ty133 := by kernel_rfl
theorem ty137_ok : tyOf Try.prog 137 = some ty137 := by kernel_rfl

def tt : TT := [(2, ty2), (3, ty3), (4, ty4), (5, ty5), (9, ty9), (12, ty12), (21, ty21), (22, ty22), (23, ty23), (24, ty24), (25, ty25), (26, ty26), (30, ty30), (31, ty31), (32, ty32), (33, ty33), (34, ty34), (36, ty36), (37, ty37), (38, ty38), (39, ty39), (40, ty40), (41, ty41), (49, ty49), (50, ty50), (56, ty56), (57, ty57), (60, ty60), (61, ty61), (63, ty63), (64, ty64), (65, ty65), (66, ty66), (67, ty67), (78, ty78), (88, ty88), (89, ty89), (90, ty90), (93, ty93), (94, ty94), (101, ty101), (105, ty105), (112, ty112), (133, ty133), (137, ty137)]
theorem ttok : TTok Try.prog tt := ttok_cons ty2_ok (ttok_cons ty3_ok (ttok_cons ty4_ok (ttok_cons ty5_ok (ttok_cons ty9_ok (ttok_cons ty12_ok (ttok_cons ty21_ok (ttok_cons ty22_ok (ttok_cons ty23_ok (ttok_cons ty24_ok (ttok_cons ty25_ok (ttok_cons ty26_ok (ttok_cons ty30_ok (ttok_cons ty31_ok (ttok_cons ty32_ok (ttok_cons ty33_ok (ttok_cons ty34_ok (ttok_cons ty36_ok (ttok_cons ty37_ok (ttok_cons ty38_ok (ttok_cons ty39_ok (ttok_cons ty40_ok (ttok_cons ty41_ok (ttok_cons ty49_ok (ttok_cons ty50_ok (ttok_cons ty56_ok (ttok_cons ty57_ok (ttok_cons ty60_ok (ttok_cons ty61_ok (ttok_cons ty63_ok (ttok_cons ty64_ok (ttok_cons ty65_ok (ttok_cons ty66_ok (ttok_cons ty67_ok (ttok_cons ty78_ok (ttok_cons ty88_ok (ttok_cons ty89_ok (ttok_cons ty90_ok (ttok_cons ty93_ok (ttok_cons ty94_ok (ttok_cons ty101_ok (ttok_cons ty105_ok (ttok_cons ty112_ok (ttok_cons ty133_ok (ttok_cons ty137_ok (ttok_nil _)))))))))))))))))))))))))))))))))))))))))))))
theorem nd {p : Prop} : (false = true) → p := fun h => by cases h
theorem hmix : Try.prog.follows .mixedOrders = true := by kernel_rfl
theorem fn3 : FnOK Try.prog 3 := ⟨_, Try.func3, by kernel_rfl, rfl⟩
theorem fn4 : FnOK Try.prog 4 := ⟨_, Try.func4, by kernel_rfl, rfl⟩
theorem fn5 : FnOK Try.prog 5 := ⟨_, Try.func5, by kernel_rfl, rfl⟩
theorem fn6 : FnOK Try.prog 6 := ⟨_, Try.func6, by kernel_rfl, rfl⟩
theorem fn7 : FnOK Try.prog 7 := ⟨_, Try.func7, by kernel_rfl, rfl⟩
theorem fn8 : FnOK Try.prog 8 := ⟨_, Try.func8, by kernel_rfl, rfl⟩
theorem fn9 : FnOK Try.prog 9 := ⟨_, Try.func9, by kernel_rfl, rfl⟩
theorem fn10 : FnOK Try.prog 10 := ⟨_, Try.func10, by kernel_rfl, rfl⟩
theorem fn11 : FnOK Try.prog 11 := ⟨_, Try.func11, by kernel_rfl, rfl⟩
theorem fn12 : FnOK Try.prog 12 := ⟨_, Try.func12, by kernel_rfl, rfl⟩
theorem fn13 : FnOK Try.prog 13 := ⟨_, Try.func13, by kernel_rfl, rfl⟩
theorem fn14 : FnOK Try.prog 14 := ⟨_, Try.func14, by kernel_rfl, rfl⟩
theorem fn15 : FnOK Try.prog 15 := ⟨_, Try.func15, by kernel_rfl, rfl⟩
theorem fn16 : FnOK Try.prog 16 := ⟨_, Try.func16, by kernel_rfl, rfl⟩
theorem fn17 : FnOK Try.prog 17 := ⟨_, Try.func17, by kernel_rfl, rfl⟩
theorem fn18 : FnOK Try.prog 18 := ⟨_, Try.func18, by kernel_rfl, rfl⟩
theorem fn19 : FnOK Try.prog 19 := ⟨_, Try.func19, by kernel_rfl, rfl⟩
theorem fn20 : FnOK Try.prog 20 := ⟨_, Try.func20, by kernel_rfl, rfl⟩
theorem fn21 : FnOK Try.prog 21 := ⟨_, Try.func21, by kernel_rfl, rfl⟩
theorem fn22 : FnOK Try.prog 22 := ⟨_, Try.func22, by kernel_rfl, rfl⟩
theorem fn23 : FnOK Try.prog 23 := ⟨_, Try.func23, by kernel_rfl, rfl⟩
theorem fn24 : FnOK Try.prog 24 := ⟨_, Try.func24, by kernel_rfl, rfl⟩
theorem fn25 : FnOK Try.prog 25 := ⟨_, Try.func25, by kernel_rfl, rfl⟩
theorem fn26 : FnOK Try.prog 26 := ⟨_, Try.func26, by kernel_rfl, rfl⟩
theorem fn27 : FnOK Try.prog 27 := ⟨_, Try.func27, by kernel_rfl, rfl⟩
theorem fn28 : FnOK Try.prog 28 := ⟨_, Try.func28, by kernel_rfl, rfl⟩
theorem fn29 : FnOK Try.prog 29 := ⟨_, Try.func29, by kernel_rfl, rfl⟩
theorem fn30 : FnOK Try.prog 30 := ⟨_, Try.func30, by kernel_rfl, rfl⟩
theorem fn31 : FnOK Try.prog 31 := ⟨_, Try.func31, by kernel_rfl, rfl⟩
theorem fn32 : FnOK Try.prog 32 := ⟨_, Try.func32, by kernel_rfl, rfl⟩
theorem fn33 : FnOK Try.prog 33 := ⟨_, Try.func33, by kernel_rfl, rfl⟩
theorem fn34 : FnOK Try.prog 34 := ⟨_, Try.func34, by kernel_rfl, rfl⟩
theorem fn35 : FnOK Try.prog 35 := ⟨_, Try.func35, by kernel_rfl, rfl⟩
theorem fn36 : FnOK Try.prog 36 := ⟨_, Try.func36, by kernel_rfl, rfl⟩
theorem fn37 : FnOK Try.prog 37 := ⟨_, Try.func37, by kernel_rfl, rfl⟩
theorem fn38 : FnOK Try.prog 38 := ⟨_, Try.func38, by kernel_rfl, rfl⟩
theorem fn39 : FnOK Try.prog 39 := ⟨_, Try.func39, by kernel_rfl, rfl⟩
theorem fn40 : FnOK Try.prog 40 := ⟨_, Try.func40, by kernel_rfl, rfl⟩
theorem fn41 : FnOK Try.prog 41 := ⟨_, Try.func41, by kernel_rfl, rfl⟩
theorem fn42 : FnOK Try.prog 42 := ⟨_, Try.func42, by kernel_rfl, rfl⟩
theorem fn43 : FnOK Try.prog 43 := ⟨_, Try.func43, by kernel_rfl, rfl⟩
theorem fn44 : FnOK Try.prog 44 := ⟨_, Try.func44, by kernel_rfl, rfl⟩
theorem fn45 : FnOK Try.prog 45 := ⟨_, Try.func45, by kernel_rfl, rfl⟩
theorem fn46 : FnOK Try.prog 46 := ⟨_, Try.func46, by kernel_rfl, rfl⟩
theorem fn47 : FnOK Try.prog 47 := ⟨_, Try.func47, by kernel_rfl, rfl⟩
theorem fn48 : FnOK Try.prog 48 := ⟨_, Try.func48, by kernel_rfl, rfl⟩
theorem fn49 : FnOK Try.prog 49 := ⟨_, Try.func49, by kernel_rfl, rfl⟩
theorem fn50 : FnOK Try.prog 50 := ⟨_, Try.func50, by kernel_rfl, rfl⟩
theorem fn51 : FnOK Try.prog 51 := ⟨_, Try.func51, by kernel_rfl, rfl⟩
theorem fn52 : FnOK Try.prog 52 := ⟨_, Try.func52, by kernel_rfl, rfl⟩
theorem fn53 : FnOK Try.prog 53 := ⟨_, Try.func53, by kernel_rfl, rfl⟩
theorem fn54 : FnOK Try.prog 54 := ⟨_, Try.func54, by kernel_rfl, rfl⟩
theorem fn55 : FnOK Try.prog 55 := ⟨_, Try.func55, by kernel_rfl, rfl⟩
theorem fn56 : FnOK Try.prog 56 := ⟨_, Try.func56, by kernel_rfl, rfl⟩
theorem fn57 : FnOK Try.prog 57 := ⟨_, Try.func57, by kernel_rfl, rfl⟩
theorem fn58 : FnOK Try.prog 58 := ⟨_, Try.func58, by kernel_rfl, rfl⟩
theorem fn59 : FnOK Try.prog 59 := ⟨_, Try.func59, by kernel_rfl, rfl⟩
theorem fn60 : FnOK Try.prog 60 := ⟨_, Try.func60, by kernel_rfl, rfl⟩
theorem fn61 : FnOK Try.prog 61 := ⟨_, Try.func61, by kernel_rfl, rfl⟩
theorem fn62 : FnOK Try.prog 62 := ⟨_, Try.func62, by kernel_rfl, rfl⟩
theorem fn63 : FnOK Try.prog 63 := ⟨_, Try.func63, by kernel_rfl, rfl⟩
theorem fn64 : FnOK Try.prog 64 := ⟨_, Try.func64, by kernel_rfl, rfl⟩
theorem fn65 : FnOK Try.prog 65 := ⟨_, Try.func65, by kernel_rfl, rfl⟩
theorem fn66 : FnOK Try.prog 66 := ⟨_, Try.func66, by kernel_rfl, rfl⟩
theorem fn67 : FnOK Try.prog 67 := ⟨_, Try.func67, by kernel_rfl, rfl⟩
theorem fn68 : FnOK Try.prog 68 := ⟨_, Try.func68, by kernel_rfl, rfl⟩
theorem fn69 : FnOK Try.prog 69 := ⟨_, Try.func69, by kernel_rfl, rfl⟩
theorem fn70 : FnOK Try.prog 70 := ⟨_, Try.func70, by kernel_rfl, rfl⟩
theorem fn71 : FnOK Try.prog 71 := ⟨_, Try.func71, by kernel_rfl, rfl⟩
theorem fn72 : FnOK Try.prog 72 := ⟨_, Try.func72, by kernel_rfl, rfl⟩
theorem fn73 : FnOK Try.prog 73 := ⟨_, Try.func73, by kernel_rfl, rfl⟩
theorem fn74 : FnOK Try.prog 74 := ⟨_, Try.func74, by kernel_rfl, rfl⟩
theorem fn75 : FnOK Try.prog 75 := ⟨_, Try.func75, by kernel_rfl, rfl⟩
theorem fn76 : FnOK Try.prog 76 := ⟨_, Try.func76, by kernel_rfl, rfl⟩
theorem fn77 : FnOK Try.prog 77 := ⟨_, Try.func77, by kernel_rfl, rfl⟩
theorem fn78 : FnOK Try.prog 78 := ⟨_, Try.func78, by kernel_rfl, rfl⟩
theorem fn79 : FnOK Try.prog 79 := ⟨_, Try.func79, by kernel_rfl, rfl⟩
theorem fn80 : FnOK Try.prog 80 := ⟨_, Try.func80, by kernel_rfl, rfl⟩
theorem fn81 : FnOK Try.prog 81 := ⟨_, Try.func81, by kernel_rfl, rfl⟩
theorem fn82 : FnOK Try.prog 82 := ⟨_, Try.func82, by kernel_rfl, rfl⟩
theorem fn83 : FnOK Try.prog 83 := ⟨_, Try.func83, by kernel_rfl, rfl⟩
theorem fn84 : FnOK Try.prog 84 := ⟨_, Try.func84, by kernel_rfl, rfl⟩
theorem fn85 : FnOK Try.prog 85 := ⟨_, Try.func85, by kernel_rfl, rfl⟩
theorem fn86 : FnOK Try.prog 86 := ⟨_, Try.func86, by kernel_rfl, rfl⟩
theorem fn87 : FnOK Try.prog 87 := ⟨_, Try.func87, by kernel_rfl, rfl⟩
theorem fn88 : FnOK Try.prog 88 := ⟨_, Try.func88, by kernel_rfl, rfl⟩
theorem fn89 : FnOK Try.prog 89 := ⟨_, Try.func89, by kernel_rfl, rfl⟩
theorem fn90 : FnOK Try.prog 90 := ⟨_, Try.func90, by kernel_rfl, rfl⟩
theorem fn91 : FnOK Try.prog 91 := ⟨_, Try.func91, by kernel_rfl, rfl⟩
theorem fn92 : FnOK Try.prog 92 := ⟨_, Try.func92, by kernel_rfl, rfl⟩
theorem fn93 : FnOK Try.prog 93 := ⟨_, Try.func93, by kernel_rfl, rfl⟩
theorem fn94 : FnOK Try.prog 94 := ⟨_, Try.func94, by kernel_rfl, rfl⟩
theorem fn95 : FnOK Try.prog 95 := ⟨_, Try.func95, by kernel_rfl, rfl⟩
theorem fn96 : FnOK Try.prog 96 := ⟨_, Try.func96, by kernel_rfl, rfl⟩
theorem fn97 : FnOK Try.prog 97 := ⟨_, Try.func97, by kernel_rfl, rfl⟩
theorem fn98 : FnOK Try.prog 98 := ⟨_, Try.func98, by kernel_rfl, rfl⟩
theorem fn99 : FnOK Try.prog 99 := ⟨_, Try.func99, by kernel_rfl, rfl⟩

end Go.Proofs.Ytjdgaclkcmjjcaa
