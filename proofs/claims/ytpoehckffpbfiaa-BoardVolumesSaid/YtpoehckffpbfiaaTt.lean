/- The types of the program, as the abstract layer reads them (written by gen_tt.py). -/
import Derived.Test.YtpoehckffpbfiaaAb31
import Derived.Test.YtpoehckffpbfiaaProg
import Derived.KernelRfl
namespace Go.Proofs.Ytpoehckffpbfiaa
open Go Go.Ab

abbrev I (n : Int) : AV := .sc (.int .i64 n)
abbrev B (b : Bool) : AV := .sc (.bool b)
abbrev S (s : ByteArray) : AV := .sc (.string s)

def ty1 : TyD := TyD.mk TyK.base 1 8 (AV.sc Value.nilFunc)
def ty2 : TyD := TyD.mk (TyK.int IntKind.i64) 1 8 (I 0)
def ty3 : TyD := TyD.mk (TyK.int IntKind.i64) 1 8 (I 0)
def ty4 : TyD := TyD.mk TyK.bool 1 1 (B false)
def ty5 : TyD := TyD.mk (TyK.int IntKind.u8) 1 1 (AV.sc (Value.int IntKind.u8 0))
def ty9 : TyD := TyD.mk TyK.str 1 16 (S ⟨#[]⟩)
def ty12 : TyD := TyD.mk (TyK.int IntKind.u64) 1 8 (AV.sc (Value.int IntKind.u64 0))
def ty21 : TyD := TyD.mk (TyK.int IntKind.i32) 1 4 (AV.sc (Value.int IntKind.i32 0))
def ty22 : TyD := TyD.mk (TyK.struct [(0, 1), (1, 1)]) 2 16 (AV.agg [I 0, I 0])
def ty23 : TyD := TyD.mk (TyK.struct [(0, 1), (1, 1)]) 2 16 (AV.agg [I 0, I 0])
def ty24 : TyD := TyD.mk (TyK.struct [(0, 2), (2, 2), (4, 2)]) 6 48 (AV.agg [I 0, I 0, I 0, I 0, I 0, I 0])
def ty25 : TyD := TyD.mk (TyK.struct [(0, 2), (2, 2), (4, 2)]) 6 48 (AV.agg [I 0, I 0, I 0, I 0, I 0, I 0])
def ty26 : TyD := TyD.mk (TyK.slice 65) 1 24 AV.nilS
def ty27 : TyD := TyD.mk (TyK.struct [(0, 1), (1, 1), (2, 1)]) 3 24 (AV.agg [I 0, I 0, I 0])
def ty28 : TyD := TyD.mk (TyK.struct [(0, 1), (1, 1), (2, 1)]) 3 24 (AV.agg [I 0, I 0, I 0])
def ty29 : TyD := TyD.mk (TyK.struct [(0, 1), (1, 1), (2, 1), (3, 1), (4, 6), (10, 1), (11, 1), (12, 1), (13, 3), (16, 1), (17, 1)]) 18 184 (AV.agg [S ⟨#[]⟩, S ⟨#[]⟩, S ⟨#[]⟩, I 0, I 0, I 0, I 0, I 0, I 0, I 0, I 0, AV.nilS, I 0, I 0, I 0, I 0, B false, I 0])
def ty30 : TyD := TyD.mk (TyK.struct [(0, 1), (1, 1), (2, 1), (3, 1), (4, 6), (10, 1), (11, 1), (12, 1), (13, 3), (16, 1), (17, 1)]) 18 184 (AV.agg [S ⟨#[]⟩, S ⟨#[]⟩, S ⟨#[]⟩, I 0, I 0, I 0, I 0, I 0, I 0, I 0, I 0, AV.nilS, I 0, I 0, I 0, I 0, B false, I 0])
def ty31 : TyD := TyD.mk TyK.base 1 8 (AV.sc Value.nilFunc)
def ty32 : TyD := TyD.mk TyK.base 1 8 (AV.sc Value.nilFunc)
def ty33 : TyD := TyD.mk TyK.base 1 8 (AV.sc Value.nilFunc)
def ty34 : TyD := TyD.mk TyK.base 1 8 (AV.sc Value.nilFunc)
def ty35 : TyD := TyD.mk (TyK.int IntKind.i64) 1 8 (I 0)
def ty37 : TyD := TyD.mk TyK.base 1 8 (AV.sc Value.nilFunc)
def ty39 : TyD := TyD.mk TyK.base 1 8 (AV.sc Value.nilFunc)
def ty40 : TyD := TyD.mk TyK.base 1 8 (AV.sc Value.nilFunc)
def ty41 : TyD := TyD.mk (TyK.struct [(0, 1), (1, 1), (2, 1), (3, 1), (4, 1), (5, 1), (6, 1), (7, 1), (8, 1), (9, 1), (10, 1), (11, 1), (12, 1)]) 13 112 (AV.agg [S ⟨#[]⟩, I 0, I 0, I 0, I 0, I 0, I 0, I 0, I 0, I 0, I 0, I 0, I 0])
def ty42 : TyD := TyD.mk (TyK.struct [(0, 1), (1, 1), (2, 1), (3, 1), (4, 1), (5, 1), (6, 1), (7, 1), (8, 1), (9, 1), (10, 1), (11, 1), (12, 1)]) 13 112 (AV.agg [S ⟨#[]⟩, I 0, I 0, I 0, I 0, I 0, I 0, I 0, I 0, I 0, I 0, I 0, I 0])
def ty43 : TyD := TyD.mk (TyK.struct [(0, 1), (1, 1), (2, 13), (15, 1), (16, 6)]) 22 200 (AV.agg [S ⟨#[]⟩, S ⟨#[]⟩, S ⟨#[]⟩, I 0, I 0, I 0, I 0, I 0, I 0, I 0, I 0, I 0, I 0, I 0, I 0, I 0, I 0, I 0, I 0, I 0, I 0, I 0])
def ty44 : TyD := TyD.mk (TyK.struct [(0, 1), (1, 1), (2, 13), (15, 1), (16, 6)]) 22 200 (AV.agg [S ⟨#[]⟩, S ⟨#[]⟩, S ⟨#[]⟩, I 0, I 0, I 0, I 0, I 0, I 0, I 0, I 0, I 0, I 0, I 0, I 0, I 0, I 0, I 0, I 0, I 0, I 0, I 0])
def ty45 : TyD := TyD.mk (TyK.slice 87) 1 24 AV.nilS
def ty46 : TyD := TyD.mk (TyK.struct [(0, 1), (1, 1)]) 2 48 (AV.agg [AV.nilS, AV.nilS])
def ty47 : TyD := TyD.mk (TyK.struct [(0, 1), (1, 1)]) 2 48 (AV.agg [AV.nilS, AV.nilS])
def ty48 : TyD := TyD.mk TyK.base 1 8 (AV.sc Value.nilFunc)
def ty49 : TyD := TyD.mk TyK.base 1 8 (AV.sc Value.nilFunc)
def ty50 : TyD := TyD.mk TyK.base 1 8 (AV.sc Value.nilFunc)
def ty51 : TyD := TyD.mk TyK.base 1 8 (AV.sc Value.nilFunc)
def ty52 : TyD := TyD.mk (TyK.slice 3) 1 24 AV.nilS
def ty53 : TyD := TyD.mk (TyK.struct [(0, 1), (1, 1), (2, 1), (3, 1), (4, 1), (5, 1), (6, 1)]) 7 96 (AV.agg [S ⟨#[]⟩, I 0, I 0, I 0, I 0, AV.nilS, AV.nilS])
def ty54 : TyD := TyD.mk (TyK.struct [(0, 1), (1, 1), (2, 1), (3, 1), (4, 1), (5, 1), (6, 1)]) 7 96 (AV.agg [S ⟨#[]⟩, I 0, I 0, I 0, I 0, AV.nilS, AV.nilS])
def ty55 : TyD := TyD.mk TyK.base 1 8 (AV.sc Value.nilFunc)
def ty56 : TyD := TyD.mk TyK.base 1 8 (AV.sc Value.nilFunc)
def ty57 : TyD := TyD.mk TyK.base 1 8 (AV.sc Value.nilFunc)
def ty58 : TyD := TyD.mk (TyK.slice 54) 1 24 AV.nilS
def ty59 : TyD := TyD.mk TyK.base 1 8 (AV.sc Value.nilFunc)
def ty60 : TyD := TyD.mk TyK.base 1 8 (AV.sc Value.nilFunc)
def ty61 : TyD := TyD.mk TyK.base 1 8 (AV.sc Value.nilFunc)
def ty62 : TyD := TyD.mk TyK.base 1 8 (AV.sc Value.nilFunc)
def ty63 : TyD := TyD.mk TyK.base 1 8 (AV.sc Value.nilFunc)
def ty64 : TyD := TyD.mk (TyK.struct [(0, 1), (1, 6)]) 7 56 (AV.agg [I 0, I 0, I 0, I 0, I 0, I 0, I 0])
def ty65 : TyD := TyD.mk (TyK.struct [(0, 1), (1, 6)]) 7 56 (AV.agg [I 0, I 0, I 0, I 0, I 0, I 0, I 0])
def ty66 : TyD := TyD.mk (TyK.struct [(0, 1)]) 1 24 (AV.agg [AV.nilS])
def ty67 : TyD := TyD.mk (TyK.struct [(0, 1)]) 1 24 (AV.agg [AV.nilS])
def ty68 : TyD := TyD.mk TyK.base 1 8 (AV.sc Value.nilFunc)
def ty69 : TyD := TyD.mk TyK.base 1 8 (AV.sc Value.nilFunc)
def ty70 : TyD := TyD.mk TyK.base 1 8 (AV.sc Value.nilFunc)
def ty71 : TyD := TyD.mk (TyK.array 2 52) 2 48 (AV.agg [AV.nilS, AV.nilS])
def ty72 : TyD := TyD.mk TyK.base 1 8 (AV.sc Value.nilFunc)
def ty73 : TyD := TyD.mk TyK.base 1 8 (AV.sc Value.nilFunc)
def ty74 : TyD := TyD.mk TyK.base 1 8 (AV.sc (Value.pointer none))
def ty75 : TyD := TyD.mk TyK.base 1 8 (AV.sc Value.nilFunc)
def ty76 : TyD := TyD.mk TyK.base 1 8 (AV.sc Value.nilFunc)
def ty77 : TyD := TyD.mk TyK.base 1 8 (AV.sc Value.nilFunc)
def ty78 : TyD := TyD.mk TyK.base 1 8 (AV.sc Value.nilFunc)
def ty79 : TyD := TyD.mk TyK.base 1 8 (AV.sc Value.nilFunc)
def ty80 : TyD := TyD.mk TyK.base 1 8 (AV.sc Value.nilFunc)
def ty81 : TyD := TyD.mk TyK.base 1 8 (AV.sc Value.nilFunc)
def ty82 : TyD := TyD.mk TyK.base 1 8 (AV.sc Value.nilFunc)
def ty83 : TyD := TyD.mk (TyK.slice 23) 1 24 AV.nilS
def ty84 : TyD := TyD.mk (TyK.struct [(0, 1), (1, 1)]) 2 32 (AV.agg [I 0, AV.nilS])
def ty85 : TyD := TyD.mk (TyK.struct [(0, 1), (1, 1)]) 2 32 (AV.agg [I 0, AV.nilS])
def ty86 : TyD := TyD.mk (TyK.struct [(0, 1), (1, 2)]) 3 40 (AV.agg [I 0, I 0, AV.nilS])
def ty87 : TyD := TyD.mk (TyK.struct [(0, 1), (1, 2)]) 3 40 (AV.agg [I 0, I 0, AV.nilS])
def ty88 : TyD := TyD.mk (TyK.struct [(0, 2), (2, 2)]) 4 32 (AV.agg [I 0, I 0, I 0, I 0])
def ty89 : TyD := TyD.mk (TyK.struct [(0, 2), (2, 2)]) 4 32 (AV.agg [I 0, I 0, I 0, I 0])
def ty90 : TyD := TyD.mk TyK.base 1 8 (AV.sc Value.nilFunc)
def ty91 : TyD := TyD.mk TyK.base 1 8 (AV.sc Value.nilFunc)
def ty92 : TyD := TyD.mk TyK.base 1 8 (AV.sc Value.nilFunc)
def ty93 : TyD := TyD.mk TyK.base 1 8 (AV.sc Value.nilFunc)
def ty94 : TyD := TyD.mk TyK.base 1 8 (AV.sc Value.nilFunc)
def ty95 : TyD := TyD.mk (TyK.slice 133) 1 24 AV.nilS
def ty96 : TyD := TyD.mk TyK.base 1 8 (AV.sc Value.nilFunc)
def ty97 : TyD := TyD.mk TyK.base 1 8 (AV.sc Value.nilFunc)
def ty98 : TyD := TyD.mk TyK.base 1 8 (AV.sc Value.nilFunc)
def ty99 : TyD := TyD.mk TyK.base 1 8 (AV.sc Value.nilFunc)
def ty100 : TyD := TyD.mk TyK.base 1 8 (AV.sc Value.nilFunc)
def ty102 : TyD := TyD.mk TyK.base 1 8 (AV.sc Value.nilFunc)
def ty103 : TyD := TyD.mk (TyK.array 2 3) 2 16 (AV.agg [I 0, I 0])
def ty104 : TyD := TyD.mk TyK.base 1 8 (AV.sc Value.nilFunc)
def ty105 : TyD := TyD.mk TyK.base 1 8 (AV.sc Value.nilFunc)
def ty106 : TyD := TyD.mk TyK.base 1 8 (AV.sc Value.nilFunc)
def ty107 : TyD := TyD.mk (TyK.array 2 23) 4 32 (AV.agg [I 0, I 0, I 0, I 0])
def ty108 : TyD := TyD.mk TyK.base 1 8 (AV.sc Value.nilFunc)
def ty109 : TyD := TyD.mk TyK.base 1 8 (AV.sc (Value.pointer none))
def ty110 : TyD := TyD.mk TyK.base 1 8 (AV.sc Value.nilFunc)
def ty111 : TyD := TyD.mk (TyK.int IntKind.u64) 1 8 (AV.sc (Value.int IntKind.u64 0))
def ty112 : TyD := TyD.mk TyK.base 1 8 (AV.sc (Value.pointer none))
def ty113 : TyD := TyD.mk (TyK.slice 5) 1 24 AV.nilS
def ty114 : TyD := TyD.mk (TyK.struct [(0, 1), (1, 1)]) 2 32 (AV.agg [AV.sc (Value.pointer none), AV.nilS])
def ty115 : TyD := TyD.mk (TyK.struct [(0, 1), (1, 1)]) 2 32 (AV.agg [AV.sc (Value.pointer none), AV.nilS])
def ty117 : TyD := TyD.mk TyK.base 1 16 (AV.sc Value.nilIface)
def ty119 : TyD := TyD.mk TyK.base 1 8 (AV.sc Value.nilFunc)
def ty120 : TyD := TyD.mk TyK.base 1 8 (AV.sc Value.nilFunc)
def ty121 : TyD := TyD.mk (TyK.struct [(0, 1), (1, 1), (2, 1)]) 3 32 (AV.agg [S ⟨#[]⟩, I 0, I 0])
def ty122 : TyD := TyD.mk (TyK.struct [(0, 1), (1, 1), (2, 1)]) 3 32 (AV.agg [S ⟨#[]⟩, I 0, I 0])
def ty124 : TyD := TyD.mk TyK.base 1 8 (AV.sc Value.nilFunc)
def ty125 : TyD := TyD.mk TyK.base 1 8 (AV.sc Value.nilFunc)
def ty127 : TyD := TyD.mk TyK.base 1 8 (AV.sc Value.nilFunc)
def ty128 : TyD := TyD.mk TyK.base 1 8 (AV.sc Value.nilFunc)
def ty129 : TyD := TyD.mk TyK.base 1 8 (AV.sc Value.nilFunc)
def ty130 : TyD := TyD.mk TyK.base 1 8 (AV.sc Value.nilFunc)
def ty131 : TyD := TyD.mk TyK.base 1 8 (AV.sc Value.nilFunc)
def ty132 : TyD := TyD.mk (TyK.struct [(0, 2), (2, 1)]) 3 24 (AV.agg [I 0, I 0, I 0])
def ty133 : TyD := TyD.mk (TyK.struct [(0, 2), (2, 1)]) 3 24 (AV.agg [I 0, I 0, I 0])
def ty134 : TyD := TyD.mk TyK.base 1 8 (AV.sc Value.nilFunc)
def ty135 : TyD := TyD.mk TyK.base 1 8 (AV.sc Value.nilFunc)
def ty136 : TyD := TyD.mk TyK.base 1 8 (AV.sc Value.nilFunc)
def ty137 : TyD := TyD.mk (TyK.array 3 23) 6 48 (AV.agg [I 0, I 0, I 0, I 0, I 0, I 0])
def ty139 : TyD := TyD.mk TyK.base 1 8 (AV.sc Value.nilFunc)
def ty140 : TyD := TyD.mk TyK.base 1 8 (AV.sc Value.nilFunc)
def ty142 : TyD := TyD.mk TyK.base 1 8 (AV.sc Value.nilFunc)
def ty143 : TyD := TyD.mk TyK.base 1 8 (AV.sc Value.nilFunc)
def ty145 : TyD := TyD.mk TyK.base 1 8 (AV.sc Value.nilFunc)
def ty146 : TyD := TyD.mk TyK.base 1 8 (AV.sc Value.nilFunc)
def ty147 : TyD := TyD.mk TyK.base 1 8 (AV.sc Value.nilFunc)
def ty148 : TyD := TyD.mk TyK.base 1 8 (AV.sc Value.nilFunc)
def ty149 : TyD := TyD.mk TyK.base 1 8 (AV.sc Value.nilFunc)
def ty150 : TyD := TyD.mk (TyK.int IntKind.u64) 1 8 (AV.sc (Value.int IntKind.u64 0))
def ty151 : TyD := TyD.mk TyK.base 1 8 (AV.sc (Value.pointer none))
def ty152 : TyD := TyD.mk TyK.base 1 8 (AV.sc Value.nilFunc)
def ty153 : TyD := TyD.mk TyK.base 1 8 (AV.sc Value.nilFunc)
def ty154 : TyD := TyD.mk TyK.base 1 8 (AV.sc Value.nilFunc)
def ty155 : TyD := TyD.mk TyK.base 1 8 (AV.sc Value.nilFunc)
def ty156 : TyD := TyD.mk TyK.base 1 8 (AV.sc Value.nilFunc)
def ty157 : TyD := TyD.mk (TyK.slice 160) 1 24 AV.nilS
def ty158 : TyD := TyD.mk TyK.base 1 8 (AV.sc Value.nilFunc)
def ty159 : TyD := TyD.mk (TyK.struct [(0, 1), (1, 1), (2, 1), (3, 1)]) 4 32 (AV.agg [I 0, I 0, AV.sc Value.nilFunc, I 0])
def ty160 : TyD := TyD.mk (TyK.struct [(0, 1), (1, 1), (2, 1), (3, 1)]) 4 32 (AV.agg [I 0, I 0, AV.sc Value.nilFunc, I 0])
def ty161 : TyD := TyD.mk TyK.base 1 8 (AV.sc Value.nilFunc)
def ty163 : TyD := TyD.mk TyK.base 1 8 (AV.sc Value.nilFunc)
def ty169 : TyD := TyD.mk (TyK.int IntKind.u32) 1 4 (AV.sc (Value.int IntKind.u32 0))
def ty172 : TyD := TyD.mk TyK.base 1 8 (AV.sc Value.nilFunc)

theorem ty1_ok : tyOf Try.prog 1 = some ty1 := by kernel_rfl
theorem ty2_ok : tyOf Try.prog 2 = some ty2 := by kernel_rfl
theorem ty3_ok : tyOf Try.prog 3 = some ty3 := by kernel_rfl
theorem ty4_ok : tyOf Try.prog 4 = some ty4 := by kernel_rfl
theorem ty5_ok : tyOf Try.prog 5 = some ty5 := by kernel_rfl
theorem ty9_ok : tyOf Try.prog 9 = some ty9 := by kernel_rfl
theorem ty12_ok : tyOf Try.prog 12 = some ty12 := by kernel_rfl
theorem ty21_ok : tyOf Try.prog 21 = some ty21 := by kernel_rfl
theorem ty22_ok : tyOf Try.prog 22 = some ty22 := by kernel_rfl
theorem ty23_ok : tyOf Try.prog 23 = some ty23 := by kernel_rfl
theorem ty24_ok : tyOf Try.prog 24 = some ty24 := by kernel_rfl
theorem ty25_ok : tyOf Try.prog 25 = some ty25 := by kernel_rfl
theorem ty26_ok : tyOf Try.prog 26 = some ty26 := by kernel_rfl
theorem ty27_ok : tyOf Try.prog 27 = some ty27 := by kernel_rfl
theorem ty28_ok : tyOf Try.prog 28 = some ty28 := by kernel_rfl
theorem ty29_ok : tyOf Try.prog 29 = some ty29 := by kernel_rfl
theorem ty30_ok : tyOf Try.prog 30 = some ty30 := by kernel_rfl
theorem ty31_ok : tyOf Try.prog 31 = some ty31 := by kernel_rfl
theorem ty32_ok : tyOf Try.prog 32 = some ty32 := by kernel_rfl
theorem ty33_ok : tyOf Try.prog 33 = some ty33 := by kernel_rfl
theorem ty34_ok : tyOf Try.prog 34 = some ty34 := by kernel_rfl
theorem ty35_ok : tyOf Try.prog 35 = some ty35 := by kernel_rfl
theorem ty37_ok : tyOf Try.prog 37 = some ty37 := by kernel_rfl
theorem ty39_ok : tyOf Try.prog 39 = some ty39 := by kernel_rfl
theorem ty40_ok : tyOf Try.prog 40 = some ty40 := by kernel_rfl
theorem ty41_ok : tyOf Try.prog 41 = some ty41 := by kernel_rfl
theorem ty42_ok : tyOf Try.prog 42 = some ty42 := by kernel_rfl
theorem ty43_ok : tyOf Try.prog 43 = some ty43 := by kernel_rfl
theorem ty44_ok : tyOf Try.prog 44 = some ty44 := by kernel_rfl
theorem ty45_ok : tyOf Try.prog 45 = some ty45 := by kernel_rfl
theorem ty46_ok : tyOf Try.prog 46 = some ty46 := by kernel_rfl
theorem ty47_ok : tyOf Try.prog 47 = some ty47 := by kernel_rfl
theorem ty48_ok : tyOf Try.prog 48 = some ty48 := by kernel_rfl
theorem ty49_ok : tyOf Try.prog 49 = some ty49 := by kernel_rfl
theorem ty50_ok : tyOf Try.prog 50 = some ty50 := by kernel_rfl
theorem ty51_ok : tyOf Try.prog 51 = some ty51 := by kernel_rfl
theorem ty52_ok : tyOf Try.prog 52 = some ty52 := by kernel_rfl
theorem ty53_ok : tyOf Try.prog 53 = some ty53 := by kernel_rfl
theorem ty54_ok : tyOf Try.prog 54 = some ty54 := by kernel_rfl
theorem ty55_ok : tyOf Try.prog 55 = some ty55 := by kernel_rfl
theorem ty56_ok : tyOf Try.prog 56 = some ty56 := by kernel_rfl
theorem ty57_ok : tyOf Try.prog 57 = some ty57 := by kernel_rfl
theorem ty58_ok : tyOf Try.prog 58 = some ty58 := by kernel_rfl
theorem ty59_ok : tyOf Try.prog 59 = some ty59 := by kernel_rfl
theorem ty60_ok : tyOf Try.prog 60 = some ty60 := by kernel_rfl
theorem ty61_ok : tyOf Try.prog 61 = some ty61 := by kernel_rfl
theorem ty62_ok : tyOf Try.prog 62 = some ty62 := by kernel_rfl
theorem ty63_ok : tyOf Try.prog 63 = some ty63 := by kernel_rfl
theorem ty64_ok : tyOf Try.prog 64 = some ty64 := by kernel_rfl
theorem ty65_ok : tyOf Try.prog 65 = some ty65 := by kernel_rfl
theorem ty66_ok : tyOf Try.prog 66 = some ty66 := by kernel_rfl
theorem ty67_ok : tyOf Try.prog 67 = some ty67 := by kernel_rfl
theorem ty68_ok : tyOf Try.prog 68 = some ty68 := by kernel_rfl
theorem ty69_ok : tyOf Try.prog 69 = some ty69 := by kernel_rfl
theorem ty70_ok : tyOf Try.prog 70 = some ty70 := by kernel_rfl
theorem ty71_ok : tyOf Try.prog 71 = some ty71 := by kernel_rfl
theorem ty72_ok : tyOf Try.prog 72 = some ty72 := by kernel_rfl
theorem ty73_ok : tyOf Try.prog 73 = some ty73 := by kernel_rfl
theorem ty74_ok : tyOf Try.prog 74 = some ty74 := by kernel_rfl
theorem ty75_ok : tyOf Try.prog 75 = some ty75 := by kernel_rfl
theorem ty76_ok : tyOf Try.prog 76 = some ty76 := by kernel_rfl
theorem ty77_ok : tyOf Try.prog 77 = some ty77 := by kernel_rfl
theorem ty78_ok : tyOf Try.prog 78 = some ty78 := by kernel_rfl
theorem ty79_ok : tyOf Try.prog 79 = some ty79 := by kernel_rfl
theorem ty80_ok : tyOf Try.prog 80 = some ty80 := by kernel_rfl
theorem ty81_ok : tyOf Try.prog 81 = some ty81 := by kernel_rfl
theorem ty82_ok : tyOf Try.prog 82 = some ty82 := by kernel_rfl
theorem ty83_ok : tyOf Try.prog 83 = some ty83 := by kernel_rfl
theorem ty84_ok : tyOf Try.prog 84 = some ty84 := by kernel_rfl
theorem ty85_ok : tyOf Try.prog 85 = some ty85 := by kernel_rfl
theorem ty86_ok : tyOf Try.prog 86 = some ty86 := by kernel_rfl
theorem ty87_ok : tyOf Try.prog 87 = some ty87 := by kernel_rfl
theorem ty88_ok : tyOf Try.prog 88 = some ty88 := by kernel_rfl
theorem ty89_ok : tyOf Try.prog 89 = some ty89 := by kernel_rfl
theorem ty90_ok : tyOf Try.prog 90 = some ty90 := by kernel_rfl
theorem ty91_ok : tyOf Try.prog 91 = some ty91 := by kernel_rfl
theorem ty92_ok : tyOf Try.prog 92 = some ty92 := by kernel_rfl
theorem ty93_ok : tyOf Try.prog 93 = some ty93 := by kernel_rfl
theorem ty94_ok : tyOf Try.prog 94 = some ty94 := by kernel_rfl
theorem ty95_ok : tyOf Try.prog 95 = some ty95 := by kernel_rfl
theorem ty96_ok : tyOf Try.prog 96 = some ty96 := by kernel_rfl
theorem ty97_ok : tyOf Try.prog 97 = some ty97 := by kernel_rfl
theorem ty98_ok : tyOf Try.prog 98 = some ty98 := by kernel_rfl
theorem ty99_ok : tyOf Try.prog 99 = some ty99 := by kernel_rfl
theorem ty100_ok : tyOf Try.prog 100 = some ty100 := by kernel_rfl
theorem ty102_ok : tyOf Try.prog 102 = some ty102 := by kernel_rfl
theorem ty103_ok : tyOf Try.prog 103 = some ty103 := by kernel_rfl
theorem ty104_ok : tyOf Try.prog 104 = some ty104 := by kernel_rfl
theorem ty105_ok : tyOf Try.prog 105 = some ty105 := by kernel_rfl
theorem ty106_ok : tyOf Try.prog 106 = some ty106 := by kernel_rfl
theorem ty107_ok : tyOf Try.prog 107 = some ty107 := by kernel_rfl
theorem ty108_ok : tyOf Try.prog 108 = some ty108 := by kernel_rfl
theorem ty109_ok : tyOf Try.prog 109 = some ty109 := by kernel_rfl
theorem ty110_ok : tyOf Try.prog 110 = some ty110 := by kernel_rfl
theorem ty111_ok : tyOf Try.prog 111 = some ty111 := by kernel_rfl
theorem ty112_ok : tyOf Try.prog 112 = some ty112 := by kernel_rfl
theorem ty113_ok : tyOf Try.prog 113 = some ty113 := by kernel_rfl
theorem ty114_ok : tyOf Try.prog 114 = some ty114 := by kernel_rfl
theorem ty115_ok : tyOf Try.prog 115 = some ty115 := by kernel_rfl
theorem ty117_ok : tyOf Try.prog 117 = some ty117 := by kernel_rfl
theorem ty119_ok : tyOf Try.prog 119 = some ty119 := by kernel_rfl
theorem ty120_ok : tyOf Try.prog 120 = some ty120 := by kernel_rfl
theorem ty121_ok : tyOf Try.prog 121 = some ty121 := by kernel_rfl
theorem ty122_ok : tyOf Try.prog 122 = some ty122 := by kernel_rfl
theorem ty124_ok : tyOf Try.prog 124 = some ty124 := by kernel_rfl
theorem ty125_ok : tyOf Try.prog 125 = some ty125 := by kernel_rfl
theorem ty127_ok : tyOf Try.prog 127 = some ty127 := by kernel_rfl
theorem ty128_ok : tyOf Try.prog 128 = some ty128 := by kernel_rfl
theorem ty129_ok : tyOf Try.prog 129 = some ty129 := by kernel_rfl
theorem ty130_ok : tyOf Try.prog 130 = some ty130 := by kernel_rfl
theorem ty131_ok : tyOf Try.prog 131 = some ty131 := by kernel_rfl
theorem ty132_ok : tyOf Try.prog 132 = some ty132 := by kernel_rfl
theorem ty133_ok : tyOf Try.prog 133 = some ty133 := by kernel_rfl
theorem ty134_ok : tyOf Try.prog 134 = some ty134 := by kernel_rfl
theorem ty135_ok : tyOf Try.prog 135 = some ty135 := by kernel_rfl
theorem ty136_ok : tyOf Try.prog 136 = some ty136 := by kernel_rfl
theorem ty137_ok : tyOf Try.prog 137 = some ty137 := by kernel_rfl
theorem ty139_ok : tyOf Try.prog 139 = some ty139 := by kernel_rfl
theorem ty140_ok : tyOf Try.prog 140 = some ty140 := by kernel_rfl
theorem ty142_ok : tyOf Try.prog 142 = some ty142 := by kernel_rfl
theorem ty143_ok : tyOf Try.prog 143 = some ty143 := by kernel_rfl
theorem ty145_ok : tyOf Try.prog 145 = some ty145 := by kernel_rfl
theorem ty146_ok : tyOf Try.prog 146 = some ty146 := by kernel_rfl
theorem ty147_ok : tyOf Try.prog 147 = some ty147 := by kernel_rfl
theorem ty148_ok : tyOf Try.prog 148 = some ty148 := by kernel_rfl
theorem ty149_ok : tyOf Try.prog 149 = some ty149 := by kernel_rfl
theorem ty150_ok : tyOf Try.prog 150 = some ty150 := by kernel_rfl
theorem ty151_ok : tyOf Try.prog 151 = some ty151 := by kernel_rfl
theorem ty152_ok : tyOf Try.prog 152 = some ty152 := by kernel_rfl
theorem ty153_ok : tyOf Try.prog 153 = some ty153 := by kernel_rfl
theorem ty154_ok : tyOf Try.prog 154 = some ty154 := by kernel_rfl
theorem ty155_ok : tyOf Try.prog 155 = some ty155 := by kernel_rfl
theorem ty156_ok : tyOf Try.prog 156 = some ty156 := by kernel_rfl
theorem ty157_ok : tyOf Try.prog 157 = some ty157 := by kernel_rfl
theorem ty158_ok : tyOf Try.prog 158 = some ty158 := by kernel_rfl
theorem ty159_ok : tyOf Try.prog 159 = some ty159 := by kernel_rfl
theorem ty160_ok : tyOf Try.prog 160 = some ty160 := by kernel_rfl
theorem ty161_ok : tyOf Try.prog 161 = some ty161 := by kernel_rfl
theorem ty163_ok : tyOf Try.prog 163 = some ty163 := by kernel_rfl
theorem ty169_ok : tyOf Try.prog 169 = some ty169 := by kernel_rfl
theorem ty172_ok : tyOf Try.prog 172 = some ty172 := by kernel_rfl

def tt : TT := [(1, ty1), (2, ty2), (3, ty3), (4, ty4), (5, ty5), (9, ty9), (12, ty12), (21, ty21), (22, ty22), (23, ty23), (24, ty24), (25, ty25), (26, ty26), (27, ty27), (28, ty28), (29, ty29), (30, ty30), (31, ty31), (32, ty32), (33, ty33), (34, ty34), (35, ty35), (37, ty37), (39, ty39), (40, ty40), (41, ty41), (42, ty42), (43, ty43), (44, ty44), (45, ty45), (46, ty46), (47, ty47), (48, ty48), (49, ty49), (50, ty50), (51, ty51), (52, ty52), (53, ty53), (54, ty54), (55, ty55), (56, ty56), (57, ty57), (58, ty58), (59, ty59), (60, ty60), (61, ty61), (62, ty62), (63, ty63), (64, ty64), (65, ty65), (66, ty66), (67, ty67), (68, ty68), (69, ty69), (70, ty70), (71, ty71), (72, ty72), (73, ty73), (74, ty74), (75, ty75), (76, ty76), (77, ty77), (78, ty78), (79, ty79), (80, ty80), (81, ty81), (82, ty82), (83, ty83), (84, ty84), (85, ty85), (86, ty86), (87, ty87), (88, ty88), (89, ty89), (90, ty90), (91, ty91), (92, ty92), (93, ty93), (94, ty94), (95, ty95), (96, ty96), (97, ty97), (98, ty98), (99, ty99), (100, ty100), (102, ty102), (103, ty103), (104, ty104), (105, ty105), (106, ty106), (107, ty107), (108, ty108), (109, ty109), (110, ty110), (111, ty111), (112, ty112), (113, ty113), (114, ty114), (115, ty115), (117, ty117), (119, ty119), (120, ty120), (121, ty121), (122, ty122), (124, ty124), (125, ty125), (127, ty127), (128, ty128), (129, ty129), (130, ty130), (131, ty131), (132, ty132), (133, ty133), (134, ty134), (135, ty135), (136, ty136), (137, ty137), (139, ty139), (140, ty140), (142, ty142), (143, ty143), (145, ty145), (146, ty146), (147, ty147), (148, ty148), (149, ty149), (150, ty150), (151, ty151), (152, ty152), (153, ty153), (154, ty154), (155, ty155), (156, ty156), (157, ty157), (158, ty158), (159, ty159), (160, ty160), (161, ty161), (163, ty163), (169, ty169), (172, ty172)]
theorem ttok : TTok Try.prog tt := ttok_cons ty1_ok (ttok_cons ty2_ok (ttok_cons ty3_ok (ttok_cons ty4_ok (ttok_cons ty5_ok (ttok_cons ty9_ok (ttok_cons ty12_ok (ttok_cons ty21_ok (ttok_cons ty22_ok (ttok_cons ty23_ok (ttok_cons ty24_ok (ttok_cons ty25_ok (ttok_cons ty26_ok (ttok_cons ty27_ok (ttok_cons ty28_ok (ttok_cons ty29_ok (ttok_cons ty30_ok (ttok_cons ty31_ok (ttok_cons ty32_ok (ttok_cons ty33_ok (ttok_cons ty34_ok (ttok_cons ty35_ok (ttok_cons ty37_ok (ttok_cons ty39_ok (ttok_cons ty40_ok (ttok_cons ty41_ok (ttok_cons ty42_ok (ttok_cons ty43_ok (ttok_cons ty44_ok (ttok_cons ty45_ok (ttok_cons ty46_ok (ttok_cons ty47_ok (ttok_cons ty48_ok (ttok_cons ty49_ok (ttok_cons ty50_ok (ttok_cons ty51_ok (ttok_cons ty52_ok (ttok_cons ty53_ok (ttok_cons ty54_ok (ttok_cons ty55_ok (ttok_cons ty56_ok (ttok_cons ty57_ok (ttok_cons ty58_ok (ttok_cons ty59_ok (ttok_cons ty60_ok (ttok_cons ty61_ok (ttok_cons ty62_ok (ttok_cons ty63_ok (ttok_cons ty64_ok (ttok_cons ty65_ok (ttok_cons ty66_ok (ttok_cons ty67_ok (ttok_cons ty68_ok (ttok_cons ty69_ok (ttok_cons ty70_ok (ttok_cons ty71_ok (ttok_cons ty72_ok (ttok_cons ty73_ok (ttok_cons ty74_ok (ttok_cons ty75_ok (ttok_cons ty76_ok (ttok_cons ty77_ok (ttok_cons ty78_ok (ttok_cons ty79_ok (ttok_cons ty80_ok (ttok_cons ty81_ok (ttok_cons ty82_ok (ttok_cons ty83_ok (ttok_cons ty84_ok (ttok_cons ty85_ok (ttok_cons ty86_ok (ttok_cons ty87_ok (ttok_cons ty88_ok (ttok_cons ty89_ok (ttok_cons ty90_ok (ttok_cons ty91_ok (ttok_cons ty92_ok (ttok_cons ty93_ok (ttok_cons ty94_ok (ttok_cons ty95_ok (ttok_cons ty96_ok (ttok_cons ty97_ok (ttok_cons ty98_ok (ttok_cons ty99_ok (ttok_cons ty100_ok (ttok_cons ty102_ok (ttok_cons ty103_ok (ttok_cons ty104_ok (ttok_cons ty105_ok (ttok_cons ty106_ok (ttok_cons ty107_ok (ttok_cons ty108_ok (ttok_cons ty109_ok (ttok_cons ty110_ok (ttok_cons ty111_ok (ttok_cons ty112_ok (ttok_cons ty113_ok (ttok_cons ty114_ok (ttok_cons ty115_ok (ttok_cons ty117_ok (ttok_cons ty119_ok (ttok_cons ty120_ok (ttok_cons ty121_ok (ttok_cons ty122_ok (ttok_cons ty124_ok (ttok_cons ty125_ok (ttok_cons ty127_ok (ttok_cons ty128_ok (ttok_cons ty129_ok (ttok_cons ty130_ok (ttok_cons ty131_ok (ttok_cons ty132_ok (ttok_cons ty133_ok (ttok_cons ty134_ok (ttok_cons ty135_ok (ttok_cons ty136_ok (ttok_cons ty137_ok (ttok_cons ty139_ok (ttok_cons ty140_ok (ttok_cons ty142_ok (ttok_cons ty143_ok (ttok_cons ty145_ok (ttok_cons ty146_ok (ttok_cons ty147_ok (ttok_cons ty148_ok (ttok_cons ty149_ok (ttok_cons ty150_ok (ttok_cons ty151_ok (ttok_cons ty152_ok (ttok_cons ty153_ok (ttok_cons ty154_ok (ttok_cons ty155_ok (ttok_cons ty156_ok (ttok_cons ty157_ok (ttok_cons ty158_ok (ttok_cons ty159_ok (ttok_cons ty160_ok (ttok_cons ty161_ok (ttok_cons ty163_ok (ttok_cons ty169_ok (ttok_cons ty172_ok (ttok_nil _)))))))))))))))))))))))))))))))))))))))))))))))))))))))))))))))))))))))))))))))))))))))))))))))))))))))))))))))))))))))))))))))))))))))))))))
theorem nd {p : Prop} : (false = true) → p := fun h => by cases h
theorem hmix : Try.prog.follows .mixedOrders = true := by kernel_rfl
theorem fn3 : FnOK Try.prog 3 := ⟨_, Try.func3, by kernel_rfl, rfl⟩
theorem fn4 : FnOK Try.prog 4 := ⟨_, Try.func4, by kernel_rfl, rfl⟩
theorem fn5 : FnOK Try.prog 5 := ⟨_, Try.func5, by kernel_rfl, rfl⟩
theorem fn6 : FnOK Try.prog 6 := ⟨_, Try.func6, by kernel_rfl, rfl⟩
theorem fn7 : FnOK Try.prog 7 := ⟨_, Try.func7, by kernel_rfl, rfl⟩
theorem fn8 : FnOK Try.prog 8 := ⟨_, Try.func8, by kernel_rfl, rfl⟩
theorem fn9 : FnOK Try.prog 9 := ⟨_, Try.func9, by kernel_rfl, rfl⟩
theorem fn10 : FnOK Try.prog 10 := ⟨_, Try.func10, by kernel_rfl, rfl⟩
theorem fn11 : FnOK Try.prog 11 := ⟨_, Try.func11, by kernel_rfl, rfl⟩
theorem fn12 : FnOK Try.prog 12 := ⟨_, Try.func12, by kernel_rfl, rfl⟩
theorem fn13 : FnOK Try.prog 13 := ⟨_, Try.func13, by kernel_rfl, rfl⟩
theorem fn14 : FnOK Try.prog 14 := ⟨_, Try.func14, by kernel_rfl, rfl⟩
theorem fn15 : FnOK Try.prog 15 := ⟨_, Try.func15, by kernel_rfl, rfl⟩
theorem fn16 : FnOK Try.prog 16 := ⟨_, Try.func16, by kernel_rfl, rfl⟩
theorem fn17 : FnOK Try.prog 17 := ⟨_, Try.func17, by kernel_rfl, rfl⟩
theorem fn18 : FnOK Try.prog 18 := ⟨_, Try.func18, by kernel_rfl, rfl⟩
theorem fn19 : FnOK Try.prog 19 := ⟨_, Try.func19, by kernel_rfl, rfl⟩
theorem fn20 : FnOK Try.prog 20 := ⟨_, Try.func20, by kernel_rfl, rfl⟩
theorem fn21 : FnOK Try.prog 21 := ⟨_, Try.func21, by kernel_rfl, rfl⟩
theorem fn22 : FnOK Try.prog 22 := ⟨_, Try.func22, by kernel_rfl, rfl⟩
theorem fn23 : FnOK Try.prog 23 := ⟨_, Try.func23, by kernel_rfl, rfl⟩
theorem fn24 : FnOK Try.prog 24 := ⟨_, Try.func24, by kernel_rfl, rfl⟩
theorem fn25 : FnOK Try.prog 25 := ⟨_, Try.func25, by kernel_rfl, rfl⟩
theorem fn26 : FnOK Try.prog 26 := ⟨_, Try.func26, by kernel_rfl, rfl⟩
theorem fn27 : FnOK Try.prog 27 := ⟨_, Try.func27, by kernel_rfl, rfl⟩
theorem fn28 : FnOK Try.prog 28 := ⟨_, Try.func28, by kernel_rfl, rfl⟩
theorem fn29 : FnOK Try.prog 29 := ⟨_, Try.func29, by kernel_rfl, rfl⟩
theorem fn30 : FnOK Try.prog 30 := ⟨_, Try.func30, by kernel_rfl, rfl⟩
theorem fn31 : FnOK Try.prog 31 := ⟨_, Try.func31, by kernel_rfl, rfl⟩
theorem fn32 : FnOK Try.prog 32 := ⟨_, Try.func32, by kernel_rfl, rfl⟩
theorem fn33 : FnOK Try.prog 33 := ⟨_, Try.func33, by kernel_rfl, rfl⟩
theorem fn34 : FnOK Try.prog 34 := ⟨_, Try.func34, by kernel_rfl, rfl⟩
theorem fn35 : FnOK Try.prog 35 := ⟨_, Try.func35, by kernel_rfl, rfl⟩
theorem fn36 : FnOK Try.prog 36 := ⟨_, Try.func36, by kernel_rfl, rfl⟩
theorem fn37 : FnOK Try.prog 37 := ⟨_, Try.func37, by kernel_rfl, rfl⟩
theorem fn38 : FnOK Try.prog 38 := ⟨_, Try.func38, by kernel_rfl, rfl⟩
theorem fn39 : FnOK Try.prog 39 := ⟨_, Try.func39, by kernel_rfl, rfl⟩
theorem fn40 : FnOK Try.prog 40 := ⟨_, Try.func40, by kernel_rfl, rfl⟩
theorem fn41 : FnOK Try.prog 41 := ⟨_, Try.func41, by kernel_rfl, rfl⟩
theorem fn42 : FnOK Try.prog 42 := ⟨_, Try.func42, by kernel_rfl, rfl⟩
theorem fn43 : FnOK Try.prog 43 := ⟨_, Try.func43, by kernel_rfl, rfl⟩
theorem fn44 : FnOK Try.prog 44 := ⟨_, Try.func44, by kernel_rfl, rfl⟩
theorem fn45 : FnOK Try.prog 45 := ⟨_, Try.func45, by kernel_rfl, rfl⟩
theorem fn46 : FnOK Try.prog 46 := ⟨_, Try.func46, by kernel_rfl, rfl⟩
theorem fn47 : FnOK Try.prog 47 := ⟨_, Try.func47, by kernel_rfl, rfl⟩
theorem fn48 : FnOK Try.prog 48 := ⟨_, Try.func48, by kernel_rfl, rfl⟩
theorem fn49 : FnOK Try.prog 49 := ⟨_, Try.func49, by kernel_rfl, rfl⟩
theorem fn50 : FnOK Try.prog 50 := ⟨_, Try.func50, by kernel_rfl, rfl⟩
theorem fn51 : FnOK Try.prog 51 := ⟨_, Try.func51, by kernel_rfl, rfl⟩
theorem fn52 : FnOK Try.prog 52 := ⟨_, Try.func52, by kernel_rfl, rfl⟩
theorem fn53 : FnOK Try.prog 53 := ⟨_, Try.func53, by kernel_rfl, rfl⟩
theorem fn54 : FnOK Try.prog 54 := ⟨_, Try.func54, by kernel_rfl, rfl⟩
theorem fn55 : FnOK Try.prog 55 := ⟨_, Try.func55, by kernel_rfl, rfl⟩
theorem fn56 : FnOK Try.prog 56 := ⟨_, Try.func56, by kernel_rfl, rfl⟩
theorem fn57 : FnOK Try.prog 57 := ⟨_, Try.func57, by kernel_rfl, rfl⟩
theorem fn58 : FnOK Try.prog 58 := ⟨_, Try.func58, by kernel_rfl, rfl⟩
theorem fn59 : FnOK Try.prog 59 := ⟨_, Try.func59, by kernel_rfl, rfl⟩
theorem fn60 : FnOK Try.prog 60 := ⟨_, Try.func60, by kernel_rfl, rfl⟩
theorem fn61 : FnOK Try.prog 61 := ⟨_, Try.func61, by kernel_rfl, rfl⟩
theorem fn62 : FnOK Try.prog 62 := ⟨_, Try.func62, by kernel_rfl, rfl⟩
theorem fn63 : FnOK Try.prog 63 := ⟨_, Try.func63, by kernel_rfl, rfl⟩
theorem fn64 : FnOK Try.prog 64 := ⟨_, Try.func64, by kernel_rfl, rfl⟩
theorem fn65 : FnOK Try.prog 65 := ⟨_, Try.func65, by kernel_rfl, rfl⟩
theorem fn66 : FnOK Try.prog 66 := ⟨_, Try.func66, by kernel_rfl, rfl⟩
theorem fn67 : FnOK Try.prog 67 := ⟨_, Try.func67, by kernel_rfl, rfl⟩
theorem fn68 : FnOK Try.prog 68 := ⟨_, Try.func68, by kernel_rfl, rfl⟩
theorem fn69 : FnOK Try.prog 69 := ⟨_, Try.func69, by kernel_rfl, rfl⟩
theorem fn70 : FnOK Try.prog 70 := ⟨_, Try.func70, by kernel_rfl, rfl⟩
theorem fn71 : FnOK Try.prog 71 := ⟨_, Try.func71, by kernel_rfl, rfl⟩
theorem fn72 : FnOK Try.prog 72 := ⟨_, Try.func72, by kernel_rfl, rfl⟩
theorem fn73 : FnOK Try.prog 73 := ⟨_, Try.func73, by kernel_rfl, rfl⟩
theorem fn74 : FnOK Try.prog 74 := ⟨_, Try.func74, by kernel_rfl, rfl⟩
theorem fn75 : FnOK Try.prog 75 := ⟨_, Try.func75, by kernel_rfl, rfl⟩
theorem fn76 : FnOK Try.prog 76 := ⟨_, Try.func76, by kernel_rfl, rfl⟩
theorem fn77 : FnOK Try.prog 77 := ⟨_, Try.func77, by kernel_rfl, rfl⟩
theorem fn78 : FnOK Try.prog 78 := ⟨_, Try.func78, by kernel_rfl, rfl⟩
theorem fn79 : FnOK Try.prog 79 := ⟨_, Try.func79, by kernel_rfl, rfl⟩
theorem fn80 : FnOK Try.prog 80 := ⟨_, Try.func80, by kernel_rfl, rfl⟩
theorem fn81 : FnOK Try.prog 81 := ⟨_, Try.func81, by kernel_rfl, rfl⟩
theorem fn82 : FnOK Try.prog 82 := ⟨_, Try.func82, by kernel_rfl, rfl⟩
theorem fn83 : FnOK Try.prog 83 := ⟨_, Try.func83, by kernel_rfl, rfl⟩
theorem fn84 : FnOK Try.prog 84 := ⟨_, Try.func84, by kernel_rfl, rfl⟩
theorem fn85 : FnOK Try.prog 85 := ⟨_, Try.func85, by kernel_rfl, rfl⟩
theorem fn86 : FnOK Try.prog 86 := ⟨_, Try.func86, by kernel_rfl, rfl⟩
theorem fn87 : FnOK Try.prog 87 := ⟨_, Try.func87, by kernel_rfl, rfl⟩
theorem fn88 : FnOK Try.prog 88 := ⟨_, Try.func88, by kernel_rfl, rfl⟩
theorem fn89 : FnOK Try.prog 89 := ⟨_, Try.func89, by kernel_rfl, rfl⟩
theorem fn90 : FnOK Try.prog 90 := ⟨_, Try.func90, by kernel_rfl, rfl⟩
theorem fn91 : FnOK Try.prog 91 := ⟨_, Try.func91, by kernel_rfl, rfl⟩
theorem fn92 : FnOK Try.prog 92 := ⟨_, Try.func92, by kernel_rfl, rfl⟩
theorem fn93 : FnOK Try.prog 93 := ⟨_, Try.func93, by kernel_rfl, rfl⟩
theorem fn94 : FnOK Try.prog 94 := ⟨_, Try.func94, by kernel_rfl, rfl⟩
theorem fn95 : FnOK Try.prog 95 := ⟨_, Try.func95, by kernel_rfl, rfl⟩
theorem fn96 : FnOK Try.prog 96 := ⟨_, Try.func96, by kernel_rfl, rfl⟩
theorem fn97 : FnOK Try.prog 97 := ⟨_, Try.func97, by kernel_rfl, rfl⟩
theorem fn98 : FnOK Try.prog 98 := ⟨_, Try.func98, by kernel_rfl, rfl⟩
theorem fn99 : FnOK Try.prog 99 := ⟨_, Try.func99, by kernel_rfl, rfl⟩
theorem fn101 : FnOK Try.prog 101 := ⟨_, Try.func101, by kernel_rfl, rfl⟩

end Go.Proofs.Ytpoehckffpbfiaa
