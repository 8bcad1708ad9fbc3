/- The types of the program, as the abstract layer reads them (written by gen_tt.py). -/
import Derived.Test.YtpoehckffpbfiaaGreatXAAb31
import Derived.Test.YtpoehckffpbfiaaGreatProg
import Derived.KernelRfl
namespace Go.Proofs.YtpoehckffpbfiaaGreat
open Go Go.Ab
abbrev I (n : Int) : AV := .sc (.int .i64 n)
abbrev B (b : Bool) : AV := .sc (.bool b)
abbrev S (s : ByteArray) : AV := .sc (.string s)
def ty1 : TyD := TyD.mk TyK.base 1 8 (AV.sc Value.nilFunc)
def ty2 : TyD := TyD.mk (TyK.int IntKind.i64) 1 8 (I 0)
def ty3 : TyD := TyD.mk (TyK.int IntKind.i64) 1 8 (I 0)
def ty4 : TyD := TyD.mk TyK.bool 1 1 (B false)
def ty5 : TyD := TyD.mk (TyK.int IntKind.u8) 1 1 (AV.sc (Value.int IntKind.u8 0))
def ty9 : TyD := TyD.mk TyK.str 1 16 (S ⟨#[]⟩)
def ty12 : TyD := TyD.mk (TyK.int IntKind.u64) 1 8 (AV.sc (Value.int IntKind.u64 0))
def ty21 : TyD := TyD.mk (TyK.int IntKind.i32) 1 4 (AV.sc (Value.int IntKind.i32 0))
def ty22 : TyD := TyD.mk (TyK.struct [(0, 1), (1, 1)]) 2 16 (AV.agg [I 0, I 0])
def ty23 : TyD := TyD.mk (TyK.struct [(0, 1), (1, 1)]) 2 16 (AV.agg [I 0, I 0])
def ty24 : TyD := TyD.mk (TyK.struct [(0, 2), (2, 2), (4, 2)]) 6 48 (AV.agg [I 0, I 0, I 0, I 0, I 0, I 0])
def ty25 : TyD := TyD.mk (TyK.struct [(0, 2), (2, 2), (4, 2)]) 6 48 (AV.agg [I 0, I 0, I 0, I 0, I 0, I 0])
def ty26 : TyD := TyD.mk (TyK.slice 71) 1 24 AV.nilS
def ty27 : TyD := TyD.mk (TyK.struct [(0, 1), (1, 1), (2, 1)]) 3 24 (AV.agg [I 0, I 0, I 0])
def ty28 : TyD := TyD.mk (TyK.struct [(0, 1), (1, 1), (2, 1)]) 3 24 (AV.agg [I 0, I 0, I 0])
def ty29 : TyD := TyD.mk (TyK.struct [(0, 1), (1, 1), (2, 1), (3, 1), (4, 6), (10, 1), (11, 1), (12, 1), (13, 3), (16, 1), (17, 1)]) 18 184 (AV.agg [S ⟨#[]⟩, S ⟨#[]⟩, S ⟨#[]⟩, I 0, I 0, I 0, I 0, I 0, I 0, I 0, I 0, AV.nilS, I 0, I 0, I 0, I 0, B false, I 0])
def ty30 : TyD := TyD.mk (TyK.struct [(0, 1), (1, 1), (2, 1), (3, 1), (4, 6), (10, 1), (11, 1), (12, 1), (13, 3), (16, 1), (17, 1)]) 18 184 (AV.agg [S ⟨#[]⟩, S ⟨#[]⟩, S ⟨#[]⟩, I 0, I 0, I 0, I 0, I 0, I 0, I 0, I 0, AV.nilS, I 0, I 0, I 0, I 0, B false, I 0])
def ty31 : TyD := TyD.mk (TyK.slice 61) 1 24 AV.nilS
def ty32 : TyD := TyD.mk TyK.base 1 8 (AV.sc Value.nilFunc)
def ty33 : TyD := TyD.mk TyK.base 1 8 (AV.sc Value.nilFunc)
def ty34 : TyD := TyD.mk (TyK.int IntKind.i64) 1 8 (I 0)
def ty35 : TyD := TyD.mk TyK.base 1 8 (AV.sc Value.nilFunc)
def ty36 : TyD := TyD.mk TyK.base 1 8 (AV.sc Value.nilFunc)
def ty37 : TyD := TyD.mk TyK.base 1 8 (AV.sc Value.nilFunc)
def ty38 : TyD := TyD.mk (TyK.struct [(0, 1), (1, 1), (2, 1), (3, 1), (4, 1), (5, 1), (6, 1), (7, 1), (8, 1), (9, 1), (10, 1), (11, 1), (12, 1)]) 13 112 (AV.agg [S ⟨#[]⟩, I 0, I 0, I 0, I 0, I 0, I 0, I 0, I 0, I 0, I 0, I 0, I 0])
def ty39 : TyD := TyD.mk (TyK.struct [(0, 1), (1, 1), (2, 1), (3, 1), (4, 1), (5, 1), (6, 1), (7, 1), (8, 1), (9, 1), (10, 1), (11, 1), (12, 1)]) 13 112 (AV.agg [S ⟨#[]⟩, I 0, I 0, I 0, I 0, I 0, I 0, I 0, I 0, I 0, I 0, I 0, I 0])
def ty40 : TyD := TyD.mk (TyK.struct [(0, 1), (1, 1), (2, 13), (15, 1), (16, 6)]) 22 200 (AV.agg [S ⟨#[]⟩, S ⟨#[]⟩, S ⟨#[]⟩, I 0, I 0, I 0, I 0, I 0, I 0, I 0, I 0, I 0, I 0, I 0, I 0, I 0, I 0, I 0, I 0, I 0, I 0, I 0])
def ty41 : TyD := TyD.mk (TyK.struct [(0, 1), (1, 1), (2, 13), (15, 1), (16, 6)]) 22 200 (AV.agg [S ⟨#[]⟩, S ⟨#[]⟩, S ⟨#[]⟩, I 0, I 0, I 0, I 0, I 0, I 0, I 0, I 0, I 0, I 0, I 0, I 0, I 0, I 0, I 0, I 0, I 0, I 0, I 0])
def ty42 : TyD := TyD.mk (TyK.slice 82) 1 24 AV.nilS
def ty43 : TyD := TyD.mk (TyK.struct [(0, 1), (1, 1)]) 2 48 (AV.agg [AV.nilS, AV.nilS])
def ty44 : TyD := TyD.mk (TyK.struct [(0, 1), (1, 1)]) 2 48 (AV.agg [AV.nilS, AV.nilS])
def ty45 : TyD := TyD.mk TyK.base 1 8 (AV.sc Value.nilFunc)
def ty46 : TyD := TyD.mk TyK.base 1 8 (AV.sc Value.nilFunc)
def ty47 : TyD := TyD.mk TyK.base 1 8 (AV.sc Value.nilFunc)
def ty48 : TyD := TyD.mk TyK.base 1 8 (AV.sc Value.nilFunc)
def ty49 : TyD := TyD.mk TyK.base 1 8 (AV.sc Value.nilFunc)
def ty51 : TyD := TyD.mk TyK.base 1 8 (AV.sc Value.nilFunc)
def ty53 : TyD := TyD.mk TyK.base 1 8 (AV.sc Value.nilFunc)
def ty54 : TyD := TyD.mk TyK.base 1 8 (AV.sc Value.nilFunc)
def ty55 : TyD := TyD.mk TyK.base 1 8 (AV.sc Value.nilFunc)
def ty56 : TyD := TyD.mk TyK.base 1 8 (AV.sc Value.nilFunc)
def ty57 : TyD := TyD.mk TyK.base 1 8 (AV.sc Value.nilFunc)
def ty58 : TyD := TyD.mk TyK.base 1 8 (AV.sc Value.nilFunc)
def ty59 : TyD := TyD.mk (TyK.slice 3) 1 24 AV.nilS
def ty60 : TyD := TyD.mk (TyK.struct [(0, 1), (1, 1), (2, 1), (3, 1), (4, 1), (5, 1), (6, 1)]) 7 96 (AV.agg [S ⟨#[]⟩, I 0, I 0, I 0, I 0, AV.nilS, AV.nilS])
def ty61 : TyD := TyD.mk (TyK.struct [(0, 1), (1, 1), (2, 1), (3, 1), (4, 1), (5, 1), (6, 1)]) 7 96 (AV.agg [S ⟨#[]⟩, I 0, I 0, I 0, I 0, AV.nilS, AV.nilS])
def ty62 : TyD := TyD.mk TyK.base 1 8 (AV.sc Value.nilFunc)
def ty63 : TyD := TyD.mk TyK.base 1 8 (AV.sc Value.nilFunc)
def ty64 : TyD := TyD.mk TyK.base 1 8 (AV.sc Value.nilFunc)
def ty66 : TyD := TyD.mk TyK.base 1 8 (AV.sc Value.nilFunc)
def ty67 : TyD := TyD.mk (TyK.array 2 3) 2 16 (AV.agg [I 0, I 0])
def ty68 : TyD := TyD.mk TyK.base 1 8 (AV.sc Value.nilFunc)
def ty69 : TyD := TyD.mk TyK.base 1 8 (AV.sc Value.nilFunc)
def ty70 : TyD := TyD.mk (TyK.struct [(0, 1), (1, 6)]) 7 56 (AV.agg [I 0, I 0, I 0, I 0, I 0, I 0, I 0])
def ty71 : TyD := TyD.mk (TyK.struct [(0, 1), (1, 6)]) 7 56 (AV.agg [I 0, I 0, I 0, I 0, I 0, I 0, I 0])
def ty72 : TyD := TyD.mk TyK.base 1 8 (AV.sc Value.nilFunc)
def ty73 : TyD := TyD.mk TyK.base 1 8 (AV.sc Value.nilFunc)
def ty74 : TyD := TyD.mk TyK.base 1 8 (AV.sc Value.nilFunc)
def ty75 : TyD := TyD.mk TyK.base 1 8 (AV.sc Value.nilFunc)
def ty76 : TyD := TyD.mk TyK.base 1 8 (AV.sc Value.nilFunc)
def ty77 : TyD := TyD.mk TyK.base 1 8 (AV.sc Value.nilFunc)
def ty78 : TyD := TyD.mk (TyK.slice 23) 1 24 AV.nilS
def ty79 : TyD := TyD.mk (TyK.struct [(0, 1), (1, 1)]) 2 32 (AV.agg [I 0, AV.nilS])
def ty80 : TyD := TyD.mk (TyK.struct [(0, 1), (1, 1)]) 2 32 (AV.agg [I 0, AV.nilS])
def ty81 : TyD := TyD.mk (TyK.struct [(0, 1), (1, 2)]) 3 40 (AV.agg [I 0, I 0, AV.nilS])
def ty82 : TyD := TyD.mk (TyK.struct [(0, 1), (1, 2)]) 3 40 (AV.agg [I 0, I 0, AV.nilS])
def ty83 : TyD := TyD.mk TyK.base 1 8 (AV.sc Value.nilFunc)
def ty84 : TyD := TyD.mk TyK.base 1 8 (AV.sc Value.nilFunc)
def ty85 : TyD := TyD.mk (TyK.struct [(0, 1)]) 1 24 (AV.agg [AV.nilS])
def ty86 : TyD := TyD.mk (TyK.struct [(0, 1)]) 1 24 (AV.agg [AV.nilS])
def ty87 : TyD := TyD.mk TyK.base 1 8 (AV.sc Value.nilFunc)
def ty88 : TyD := TyD.mk TyK.base 1 8 (AV.sc Value.nilFunc)
def ty89 : TyD := TyD.mk TyK.base 1 8 (AV.sc Value.nilFunc)
def ty90 : TyD := TyD.mk (TyK.array 2 59) 2 48 (AV.agg [AV.nilS, AV.nilS])
def ty91 : TyD := TyD.mk TyK.base 1 8 (AV.sc Value.nilFunc)
def ty92 : TyD := TyD.mk TyK.base 1 8 (AV.sc Value.nilFunc)
def ty93 : TyD := TyD.mk TyK.base 1 8 (AV.sc Value.nilFunc)
def ty94 : TyD := TyD.mk TyK.base 1 8 (AV.sc Value.nilFunc)
def ty95 : TyD := TyD.mk TyK.base 1 8 (AV.sc Value.nilFunc)
def ty96 : TyD := TyD.mk TyK.base 1 8 (AV.sc (Value.pointer none))
def ty97 : TyD := TyD.mk TyK.base 1 8 (AV.sc Value.nilFunc)
def ty98 : TyD := TyD.mk TyK.base 1 8 (AV.sc Value.nilFunc)
def ty99 : TyD := TyD.mk TyK.base 1 8 (AV.sc Value.nilFunc)
def ty100 : TyD := TyD.mk TyK.base 1 8 (AV.sc Value.nilFunc)
def ty101 : TyD := TyD.mk TyK.base 1 8 (AV.sc Value.nilFunc)
def ty102 : TyD := TyD.mk TyK.base 1 8 (AV.sc Value.nilFunc)
def ty103 : TyD := TyD.mk TyK.base 1 8 (AV.sc Value.nilFunc)
def ty104 : TyD := TyD.mk TyK.base 1 8 (AV.sc Value.nilFunc)
def ty105 : TyD := TyD.mk (TyK.struct [(0, 1), (1, 1), (2, 1)]) 3 32 (AV.agg [S ⟨#[]⟩, I 0, I 0])
def ty106 : TyD := TyD.mk (TyK.struct [(0, 1), (1, 1), (2, 1)]) 3 32 (AV.agg [S ⟨#[]⟩, I 0, I 0])
def ty108 : TyD := TyD.mk TyK.base 1 8 (AV.sc Value.nilFunc)
def ty109 : TyD := TyD.mk TyK.base 1 8 (AV.sc Value.nilFunc)
def ty111 : TyD := TyD.mk TyK.base 1 8 (AV.sc Value.nilFunc)
def ty112 : TyD := TyD.mk TyK.base 1 8 (AV.sc Value.nilFunc)
def ty113 : TyD := TyD.mk TyK.base 1 8 (AV.sc Value.nilFunc)
def ty115 : TyD := TyD.mk TyK.base 1 8 (AV.sc Value.nilFunc)
def ty116 : TyD := TyD.mk TyK.base 1 8 (AV.sc Value.nilFunc)
def ty118 : TyD := TyD.mk TyK.base 1 8 (AV.sc Value.nilFunc)
def ty119 : TyD := TyD.mk TyK.base 1 8 (AV.sc Value.nilFunc)
def ty120 : TyD := TyD.mk TyK.base 1 8 (AV.sc Value.nilFunc)
def ty121 : TyD := TyD.mk (TyK.array 2 23) 4 32 (AV.agg [I 0, I 0, I 0, I 0])
def ty122 : TyD := TyD.mk TyK.base 1 8 (AV.sc Value.nilFunc)
def ty123 : TyD := TyD.mk TyK.base 1 8 (AV.sc Value.nilFunc)
def ty124 : TyD := TyD.mk TyK.base 1 8 (AV.sc Value.nilFunc)
def ty125 : TyD := TyD.mk TyK.base 1 8 (AV.sc Value.nilFunc)
def ty126 : TyD := TyD.mk TyK.base 1 8 (AV.sc Value.nilFunc)
def ty127 : TyD := TyD.mk TyK.base 1 8 (AV.sc Value.nilFunc)
def ty128 : TyD := TyD.mk TyK.base 1 8 (AV.sc Value.nilFunc)
def ty129 : TyD := TyD.mk TyK.base 1 8 (AV.sc Value.nilFunc)
def ty130 : TyD := TyD.mk (TyK.struct [(0, 2), (2, 2)]) 4 32 (AV.agg [I 0, I 0, I 0, I 0])
def ty131 : TyD := TyD.mk (TyK.struct [(0, 2), (2, 2)]) 4 32 (AV.agg [I 0, I 0, I 0, I 0])
def ty132 : TyD := TyD.mk TyK.base 1 8 (AV.sc Value.nilFunc)
def ty133 : TyD := TyD.mk TyK.base 1 8 (AV.sc Value.nilFunc)
def ty134 : TyD := TyD.mk TyK.base 1 8 (AV.sc Value.nilFunc)
def ty135 : TyD := TyD.mk TyK.base 1 8 (AV.sc Value.nilFunc)
def ty136 : TyD := TyD.mk TyK.base 1 8 (AV.sc Value.nilFunc)
def ty137 : TyD := TyD.mk TyK.base 1 8 (AV.sc (Value.pointer none))
def ty138 : TyD := TyD.mk TyK.base 1 8 (AV.sc Value.nilFunc)
def ty139 : TyD := TyD.mk (TyK.int IntKind.u64) 1 8 (AV.sc (Value.int IntKind.u64 0))
def ty140 : TyD := TyD.mk TyK.base 1 8 (AV.sc (Value.pointer none))
def ty141 : TyD := TyD.mk (TyK.slice 5) 1 24 AV.nilS
def ty142 : TyD := TyD.mk (TyK.struct [(0, 1), (1, 1)]) 2 32 (AV.agg [AV.sc (Value.pointer none), AV.nilS])
def ty143 : TyD := TyD.mk (TyK.struct [(0, 1), (1, 1)]) 2 32 (AV.agg [AV.sc (Value.pointer none), AV.nilS])
def ty145 : TyD := TyD.mk TyK.base 1 16 (AV.sc Value.nilIface)
def ty147 : TyD := TyD.mk TyK.base 1 8 (AV.sc Value.nilFunc)
def ty148 : TyD := TyD.mk TyK.base 1 8 (AV.sc Value.nilFunc)
def ty149 : TyD := TyD.mk (TyK.struct [(0, 1), (1, 1), (2, 1)]) 3 32 (AV.agg [S ⟨#[]⟩, I 0, I 0])
def ty150 : TyD := TyD.mk (TyK.struct [(0, 1), (1, 1), (2, 1)]) 3 32 (AV.agg [S ⟨#[]⟩, I 0, I 0])
def ty152 : TyD := TyD.mk TyK.base 1 8 (AV.sc Value.nilFunc)
def ty153 : TyD := TyD.mk TyK.base 1 8 (AV.sc Value.nilFunc)
def ty155 : TyD := TyD.mk TyK.base 1 8 (AV.sc Value.nilFunc)
def ty156 : TyD := TyD.mk TyK.base 1 8 (AV.sc Value.nilFunc)
def ty157 : TyD := TyD.mk TyK.base 1 8 (AV.sc Value.nilFunc)
def ty158 : TyD := TyD.mk TyK.base 1 8 (AV.sc Value.nilFunc)
def ty159 : TyD := TyD.mk TyK.base 1 8 (AV.sc Value.nilFunc)
def ty160 : TyD := TyD.mk TyK.base 1 8 (AV.sc Value.nilFunc)
def ty161 : TyD := TyD.mk TyK.base 1 8 (AV.sc Value.nilFunc)
def ty162 : TyD := TyD.mk TyK.base 1 8 (AV.sc Value.nilFunc)
def ty163 : TyD := TyD.mk (TyK.slice 200) 1 24 AV.nilS
def ty164 : TyD := TyD.mk (TyK.struct [(0, 7), (7, 4), (11, 1), (12, 1), (13, 1)]) 14 184 (AV.agg [S ⟨#[]⟩, I 0, I 0, I 0, I 0, AV.nilS, AV.nilS, I 0, I 0, I 0, I 0, I 0, AV.nilS, AV.nilS])
def ty165 : TyD := TyD.mk (TyK.struct [(0, 7), (7, 4), (11, 1), (12, 1), (13, 1)]) 14 184 (AV.agg [S ⟨#[]⟩, I 0, I 0, I 0, I 0, AV.nilS, AV.nilS, I 0, I 0, I 0, I 0, I 0, AV.nilS, AV.nilS])
def ty167 : TyD := TyD.mk TyK.base 1 8 (AV.sc Value.nilFunc)
def ty168 : TyD := TyD.mk TyK.base 1 8 (AV.sc Value.nilFunc)
def ty169 : TyD := TyD.mk (TyK.slice 172) 1 24 AV.nilS
def ty170 : TyD := TyD.mk TyK.base 1 8 (AV.sc Value.nilFunc)
def ty171 : TyD := TyD.mk (TyK.struct [(0, 1), (1, 1), (2, 1), (3, 1)]) 4 32 (AV.agg [I 0, I 0, AV.sc Value.nilFunc, I 0])
def ty172 : TyD := TyD.mk (TyK.struct [(0, 1), (1, 1), (2, 1), (3, 1)]) 4 32 (AV.agg [I 0, I 0, AV.sc Value.nilFunc, I 0])
def ty173 : TyD := TyD.mk TyK.base 1 8 (AV.sc Value.nilFunc)
def ty174 : TyD := TyD.mk TyK.base 1 8 (AV.sc Value.nilFunc)
def ty175 : TyD := TyD.mk TyK.base 1 8 (AV.sc Value.nilFunc)
def ty176 : TyD := TyD.mk TyK.base 1 8 (AV.sc Value.nilFunc)
def ty177 : TyD := TyD.mk (TyK.array 3 23) 6 48 (AV.agg [I 0, I 0, I 0, I 0, I 0, I 0])
def ty179 : TyD := TyD.mk TyK.base 1 8 (AV.sc Value.nilFunc)
def ty180 : TyD := TyD.mk TyK.base 1 8 (AV.sc Value.nilFunc)
def ty181 : TyD := TyD.mk TyK.base 1 8 (AV.sc Value.nilFunc)
def ty182 : TyD := TyD.mk TyK.base 1 8 (AV.sc Value.nilFunc)
def ty183 : TyD := TyD.mk TyK.base 1 8 (AV.sc Value.nilFunc)
def ty184 : TyD := TyD.mk TyK.base 1 8 (AV.sc Value.nilFunc)
def ty185 : TyD := TyD.mk TyK.base 1 8 (AV.sc Value.nilFunc)
def ty186 : TyD := TyD.mk TyK.base 1 8 (AV.sc Value.nilFunc)
def ty187 : TyD := TyD.mk TyK.base 1 8 (AV.sc Value.nilFunc)
def ty188 : TyD := TyD.mk TyK.base 1 8 (AV.sc Value.nilFunc)
def ty189 : TyD := TyD.mk TyK.base 1 8 (AV.sc Value.nilFunc)
def ty190 : TyD := TyD.mk (TyK.int IntKind.u64) 1 8 (AV.sc (Value.int IntKind.u64 0))
def ty191 : TyD := TyD.mk TyK.base 1 8 (AV.sc (Value.pointer none))
def ty192 : TyD := TyD.mk TyK.base 1 8 (AV.sc Value.nilFunc)
def ty193 : TyD := TyD.mk TyK.base 1 8 (AV.sc Value.nilFunc)
def ty194 : TyD := TyD.mk TyK.base 1 8 (AV.sc Value.nilFunc)
def ty195 : TyD := TyD.mk TyK.base 1 8 (AV.sc Value.nilFunc)
def ty196 : TyD := TyD.mk TyK.base 1 8 (AV.sc Value.nilFunc)
def ty197 : TyD := TyD.mk TyK.base 1 8 (AV.sc Value.nilFunc)
def ty198 : TyD := TyD.mk TyK.base 1 8 (AV.sc Value.nilFunc)
def ty199 : TyD := TyD.mk (TyK.struct [(0, 2), (2, 1)]) 3 24 (AV.agg [I 0, I 0, I 0])
def ty200 : TyD := TyD.mk (TyK.struct [(0, 2), (2, 1)]) 3 24 (AV.agg [I 0, I 0, I 0])
def ty202 : TyD := TyD.mk TyK.base 1 8 (AV.sc Value.nilFunc)
def ty208 : TyD := TyD.mk (TyK.int IntKind.u32) 1 4 (AV.sc (Value.int IntKind.u32 0))
def ty211 : TyD := TyD.mk TyK.base 1 8 (AV.sc Value.nilFunc)
theorem ty1_ok : tyOf Tryz.prog 1 = some ty1 := by kernel_rfl
theorem ty2_ok : tyOf Tryz.prog 2 = some ty2 := by kernel_rfl
theorem ty3_ok : tyOf Tryz.prog 3 = some ty3 := by kernel_rfl
theorem ty4_ok : tyOf Tryz.prog 4 = some ty4 := by kernel_rfl
theorem ty5_ok : tyOf Tryz.prog 5 = some ty5 := by kernel_rfl
theorem ty9_ok : tyOf Tryz.prog 9 = some ty9 := by kernel_rfl
theorem ty12_ok : tyOf Tryz.prog 12 = some ty12 := by kernel_rfl
theorem ty21_ok : tyOf Tryz.prog 21 = some ty21 := by kernel_rfl
theorem ty22_ok : tyOf Tryz.prog 22 = some ty22 := by kernel_rfl
theorem ty23_ok : tyOf Tryz.prog 23 = some ty23 := by kernel_rfl
theorem ty24_ok : tyOf Tryz.prog 24 = some ty24 := by kernel_rfl
theorem ty25_ok : tyOf Tryz.prog 25 = some ty25 := by kernel_rfl
theorem ty26_ok : tyOf Tryz.prog 26 = some ty26 := by kernel_rfl
theorem ty27_ok : tyOf Tryz.prog 27 = some ty27 := by kernel_rfl
theorem ty28_ok : tyOf Tryz.prog 28 = some ty28 := by kernel_rfl
theorem ty29_ok : tyOf Tryz.prog 29 = some ty29 := by kernel_rfl
theorem ty30_ok : tyOf Tryz.prog 30 = some ty30 := by kernel_rfl
theorem ty31_ok : tyOf Tryz.prog 31 = some ty31 := by kernel_rfl
theorem ty32_ok : tyOf Tryz.prog 32 = some ty32 := by kernel_rfl
theorem ty33_ok : tyOf Tryz.prog 33 = some ty33 := by kernel_rfl
theorem ty34_ok : tyOf Tryz.prog 34 = some ty34 := by kernel_rfl
theorem ty35_ok : tyOf Tryz.prog 35 = some ty35 := by kernel_rfl
theorem ty36_ok : tyOf Tryz.prog 36 = some ty36 := by kernel_rfl
theorem ty37_ok : tyOf Tryz.prog 37 = some ty37 := by kernel_rfl
theorem ty38_ok : tyOf Tryz.prog 38 = some ty38 := by kernel_rfl
theorem ty39_ok : tyOf Tryz.prog 39 = some ty39 := by kernel_rfl
theorem ty40_ok : tyOf Tryz.prog 40 = some ty40 := by kernel_rfl
theorem ty41_ok : tyOf Tryz.prog 41 = some ty41 := by kernel_rfl
theorem ty42_ok : tyOf Tryz.prog 42 = some ty42 := by kernel_rfl
theorem ty43_ok : tyOf Tryz.prog 43 = some ty43 := by kernel_rfl
theorem ty44_ok : tyOf Tryz.prog 44 = some ty44 := by kernel_rfl
theorem ty45_ok : tyOf Tryz.prog 45 = some ty45 := by kernel_rfl
theorem ty46_ok : tyOf Tryz.prog 46 = some ty46 := by kernel_rfl
theorem ty47_ok : tyOf Tryz.prog 47 = some ty47 := by kernel_rfl
theorem ty48_ok : tyOf Tryz.prog 48 = some ty48 := by kernel_rfl
theorem ty49_ok : tyOf Tryz.prog 49 = some ty49 := by kernel_rfl
theorem ty51_ok : tyOf Tryz.prog 51 = some ty51 := by kernel_rfl
theorem ty53_ok : tyOf Tryz.prog 53 = some ty53 := by kernel_rfl
theorem ty54_ok : tyOf Tryz.prog 54 = some ty54 := by kernel_rfl
theorem ty55_ok : tyOf Tryz.prog 55 = some ty55 := by kernel_rfl
theorem ty56_ok : tyOf Tryz.prog 56 = some ty56 := by kernel_rfl
theorem ty57_ok : tyOf Tryz.prog 57 = some ty57 := by kernel_rfl
theorem ty58_ok : tyOf Tryz.prog 58 = some ty58 := by kernel_rfl
theorem ty59_ok : tyOf Tryz.prog 59 = some ty59 := by kernel_rfl
theorem ty60_ok : tyOf Tryz.prog 60 = some ty60 := by kernel_rfl
theorem ty61_ok : tyOf Tryz.prog 61 = some ty61 := by kernel_rfl
theorem ty62_ok : tyOf Tryz.prog 62 = some ty62 := by kernel_rfl
theorem ty63_ok : tyOf Tryz.prog 63 = some ty63 := by kernel_rfl
theorem ty64_ok : tyOf Tryz.prog 64 = some ty64 := by kernel_rfl
theorem ty66_ok : tyOf Tryz.prog 66 = some ty66 := by kernel_rfl
theorem ty67_ok : tyOf Tryz.prog 67 = some ty67 := by kernel_rfl
theorem ty68_ok : tyOf Tryz.prog 68 = some ty68 := by kernel_rfl
theorem ty69_ok : tyOf Tryz.prog 69 = some ty69 := by kernel_rfl
theorem ty70_ok : tyOf Tryz.prog 70 = some ty70 := by kernel_rfl
theorem ty71_ok : tyOf Tryz.prog 71 = some ty71 := by kernel_rfl
theorem ty72_ok : tyOf Tryz.prog 72 = some ty72 := by kernel_rfl
theorem ty73_ok : tyOf Tryz.prog 73 = some ty73 := by kernel_rfl
theorem ty74_ok : tyOf Tryz.prog 74 = some ty74 := by kernel_rfl
theorem ty75_ok : tyOf Tryz.prog 75 = some ty75 := by kernel_rfl
theorem ty76_ok : tyOf Tryz.prog 76 = some ty76 := by kernel_rfl
theorem ty77_ok : tyOf Tryz.prog 77 = some ty77 := by kernel_rfl
theorem ty78_ok : tyOf Tryz.prog 78 = some ty78 := by kernel_rfl
theorem ty79_ok : tyOf Tryz.prog 79 = some ty79 := by kernel_rfl
theorem ty80_ok : tyOf Tryz.prog 80 = some ty80 := by kernel_rfl
theorem ty81_ok : tyOf Tryz.prog 81 = some ty81 := by kernel_rfl
theorem ty82_ok : tyOf Tryz.prog 82 = some ty82 := by kernel_rfl
theorem ty83_ok : tyOf Tryz.prog 83 = some ty83 := by kernel_rfl
theorem ty84_ok : tyOf Tryz.prog 84 = some ty84 := by kernel_rfl
theorem ty85_ok : tyOf Tryz.prog 85 = some ty85 := by kernel_rfl
theorem ty86_ok : tyOf Tryz.prog 86 = some ty86 := by kernel_rfl
theorem ty87_ok : tyOf Tryz.prog 87 = some ty87 := by kernel_rfl
theorem ty88_ok : tyOf Tryz.prog 88 = some ty88 := by kernel_rfl
theorem ty89_ok : tyOf Tryz.prog 89 = some ty89 := by kernel_rfl
theorem ty90_ok : tyOf Tryz.prog 90 = some ty90 := by kernel_rfl
theorem ty91_ok : tyOf Tryz.prog 91 = some ty91 := by kernel_rfl
theorem ty92_ok : tyOf Tryz.prog 92 = some ty92 := by kernel_rfl
theorem ty93_ok : tyOf Tryz.prog 93 = some ty93 := by kernel_rfl
theorem ty94_ok : tyOf Tryz.prog 94 = some ty94 := by kernel_rfl
theorem ty95_ok : tyOf Tryz.prog 95 = some ty95 := by kernel_rfl
theorem ty96_ok : tyOf Tryz.prog 96 = some ty96 := by kernel_rfl
theorem ty97_ok : tyOf Tryz.prog 97 = some ty97 := by kernel_rfl
theorem ty98_ok : tyOf Tryz.prog 98 = some ty98 := by kernel_rfl
theorem ty99_ok : tyOf Tryz.prog 99 = some ty99 := by kernel_rfl
theorem ty100_ok : tyOf Tryz.prog 100 = some ty100 := by kernel_rfl
theorem ty101_ok : tyOf Tryz.prog 101 = some ty101 := by kernel_rfl
theorem ty102_ok : tyOf Tryz.prog 102 = some ty102 := by kernel_rfl
theorem ty103_ok : tyOf Tryz.prog 103 = some ty103 := by kernel_rfl
theorem ty104_ok : tyOf Tryz.prog 104 = some ty104 := by kernel_rfl
theorem ty105_ok : tyOf Tryz.prog 105 = some ty105 := by kernel_rfl
theorem ty106_ok : tyOf Tryz.prog 106 = some ty106 := by kernel_rfl
theorem ty108_ok : tyOf Tryz.prog 108 = some ty108 := by kernel_rfl
theorem ty109_ok : tyOf Tryz.prog 109 = some ty109 := by kernel_rfl
theorem ty111_ok : tyOf Tryz.prog 111 = some ty111 := by kernel_rfl
theorem ty112_ok : tyOf Tryz.prog 112 = some ty112 := by kernel_rfl
theorem ty113_ok : tyOf Tryz.prog 113 = some ty113 := by kernel_rfl
theorem ty115_ok : tyOf Tryz.prog 115 = some ty115 := by kernel_rfl
theorem ty116_ok : tyOf Tryz.prog 116 = some ty116 := by kernel_rfl
theorem ty118_ok : tyOf Tryz.prog 118 = some ty118 := by kernel_rfl
theorem ty119_ok : tyOf Tryz.prog 119 = some ty119 := by kernel_rfl
theorem ty120_ok : tyOf Tryz.prog 120 = some ty120 := by kernel_rfl
theorem ty121_ok : tyOf Tryz.prog 121 = some ty121 := by kernel_rfl
theorem ty122_ok : tyOf Tryz.prog 122 = some ty122 := by kernel_rfl
theorem ty123_ok : tyOf Tryz.prog 123 = some ty123 := by kernel_rfl
theorem ty124_ok : tyOf Tryz.prog 124 = some ty124 := by kernel_rfl
theorem ty125_ok : tyOf Tryz.prog 125 = some ty125 := by kernel_rfl
theorem ty126_ok : tyOf Tryz.prog 126 = some ty126 := by kernel_rfl
theorem ty127_ok : tyOf Tryz.prog 127 = some ty127 := by kernel_rfl
theorem ty128_ok : tyOf Tryz.prog 128 = some ty128 := by kernel_rfl
theorem ty129_ok : tyOf Tryz.prog 129 = some ty129 := by kernel_rfl
theorem ty130_ok : tyOf Tryz.prog 130 = some ty130 := by kernel_rfl
theorem ty131_ok : tyOf Tryz.prog 131 = some ty131 := by kernel_rfl
theorem ty132_ok : tyOf Tryz.prog 132 = some ty132 := by kernel_rfl
theorem ty133_ok : tyOf Tryz.prog 133 = some ty133 := by kernel_rfl
theorem ty134_ok : tyOf Tryz.prog 134 = some ty134 := by kernel_rfl
theorem ty135_ok : tyOf Tryz.prog 135 = some ty135 := by kernel_rfl
theorem ty136_ok : tyOf Tryz.prog 136 = some ty136 := by kernel_rfl
theorem ty137_ok : tyOf Tryz.prog 137 = some ty137 := by kernel_rfl
theorem ty138_ok : tyOf Tryz.prog 138 = some ty138 := by kernel_rfl
theorem ty139_ok : tyOf Tryz.prog 139 = some ty139 := by kernel_rfl
theorem ty140_ok : tyOf Tryz.prog 140 = some ty140 := by kernel_rfl
theorem ty141_ok : tyOf Tryz.prog 141 = some ty141 := by kernel_rfl
theorem ty142_ok : tyOf Tryz.prog 142 = some ty142 := by kernel_rfl
theorem ty143_ok : tyOf Tryz.prog 143 = some ty143 := by kernel_rfl
theorem ty145_ok : tyOf Tryz.prog 145 = some ty145 := by kernel_rfl
theorem ty147_ok : tyOf Tryz.prog 147 = some ty147 := by kernel_rfl
theorem ty148_ok : tyOf Tryz.prog 148 = some ty148 := by kernel_rfl
theorem ty149_ok : tyOf Tryz.prog 149 = some ty149 := by kernel_rfl
theorem ty150_ok : tyOf Tryz.prog 150 = some ty150 := by kernel_rfl
theorem ty152_ok : tyOf Tryz.prog 152 = some ty152 := by kernel_rfl
theorem ty153_ok : tyOf Tryz.prog 153 = some ty153 := by kernel_rfl
theorem ty155_ok : tyOf Tryz.prog 155 = some ty155 := by kernel_rfl
theorem ty156_ok : tyOf Tryz.prog 156 = some ty156 := by kernel_rfl
theorem ty157_ok : tyOf Tryz.prog 157 = some ty157 := by kernel_rfl
theorem ty158_ok : tyOf Tryz.prog 158 = some ty158 := by kernel_rfl
theorem ty159_ok : tyOf Tryz.prog 159 = some ty159 := by kernel_rfl
theorem ty160_ok : tyOf Tryz.prog 160 = some ty160 := by kernel_rfl
theorem ty161_ok : tyOf Tryz.prog 161 = some ty161 := by kernel_rfl
theorem ty162_ok : tyOf Tryz.prog 162 = some ty162 := by kernel_rfl
theorem ty163_ok : tyOf Tryz.prog 163 = some ty163 := by kernel_rfl
theorem ty164_ok : tyOf Tryz.prog 164 = some ty164 := by kernel_rfl
theorem ty165_ok : tyOf Tryz.prog 165 = some ty165 := by kernel_rfl
theorem ty167_ok : tyOf Tryz.prog 167 = some ty167 := by kernel_rfl
theorem ty168_ok : tyOf Tryz.prog 168 = some ty168 := by kernel_rfl
theorem ty169_ok : tyOf Tryz.prog 169 = some ty169 := by kernel_rfl
theorem ty170_ok : tyOf Tryz.prog 170 = some ty170 := by kernel_rfl
theorem ty171_ok : tyOf Tryz.prog 171 = some ty171 := by kernel_rfl
theorem ty172_ok : tyOf Tryz.prog 172 = some ty172 := by kernel_rfl
theorem ty173_ok : tyOf Tryz.prog 173 = some ty173 := by kernel_rfl
theorem ty174_ok : tyOf Tryz.prog 174 = some ty174 := by kernel_rfl
theorem ty175_ok : tyOf Tryz.prog 175 = some ty175 := by kernel_rfl
theorem ty176_ok : tyOf Tryz.prog 176 = some ty176 := by kernel_rfl
theorem ty177_ok : tyOf Tryz.prog 177 = some ty177 := by kernel_rfl
theorem ty179_ok : tyOf Tryz.prog 179 = some ty179 := by kernel_rfl
theorem ty180_ok : tyOf Tryz.prog 180 = some ty180 := by kernel_rfl
theorem ty181_ok : tyOf Tryz.prog 181 = some ty181 := by kernel_rfl
theorem ty182_ok : tyOf Tryz.prog 182 = some ty182 := by kernel_rfl
theorem ty183_ok : tyOf Tryz.prog 183 = some ty183 := by kernel_rfl
theorem ty184_ok : tyOf Tryz.prog 184 = some ty184 := by kernel_rfl
theorem ty185_ok : tyOf Tryz.prog 185 = some ty185 := by kernel_rfl
theorem ty186_ok : tyOf Tryz.prog 186 = some ty186 := by kernel_rfl
theorem ty187_ok : tyOf Tryz.prog 187 = some ty187 := by kernel_rfl
theorem ty188_ok : tyOf Tryz.prog 188 = some ty188 := by kernel_rfl
theorem ty189_ok : tyOf Tryz.prog 189 = some ty189 := by kernel_rfl
theorem ty190_ok : tyOf Tryz.prog 190 = some ty190 := by kernel_rfl
theorem ty191_ok : tyOf Tryz.prog 191 = some ty191 := by kernel_rfl
theorem ty192_ok : tyOf Tryz.prog 192 = some ty192 := by kernel_rfl
theorem ty193_ok : tyOf Tryz.prog 193 = some ty193 := by kernel_rfl
theorem ty194_ok : tyOf Tryz.prog 194 = some ty194 := by kernel_rfl
theorem ty195_ok : tyOf Tryz.prog 195 = some ty195 := by kernel_rfl
theorem ty196_ok : tyOf Tryz.prog 196 = some ty196 := by kernel_rfl
theorem ty197_ok : tyOf Tryz.prog 197 = some ty197 := by kernel_rfl
theorem ty198_ok : tyOf Tryz.prog 198 = some ty198 := by kernel_rfl
theorem ty199_ok : tyOf Tryz.prog 199 = some ty199 := by kernel_rfl
theorem ty200_ok : tyOf Tryz.prog 200 = some ty200 := by kernel_rfl
theorem ty202_ok : tyOf Tryz.prog 202 = some ty202 := by kernel_rfl
theorem ty208_ok : tyOf Tryz.prog 208 = some ty208 := by kernel_rfl
theorem ty211_ok : tyOf Tryz.prog 211 = some ty211 := by kernel_rfl
def tt : TT := [(1, ty1), (2, ty2), (3, ty3), (4, ty4), (5, ty5), (9, ty9), (12, ty12), (21, ty21), (22, ty22), (23, ty23), (24, ty24), (25, ty25), (26, ty26), (27, ty27), (28, ty28), (29, ty29), (30, ty30), (31, ty31), (32, ty32), (33, ty33), (34, ty34), (35, ty35), (36, ty36), (37, ty37), (38, ty38), (39, ty39), (40, ty40), (41, ty41), (42, ty42), (43, ty43), (44, ty44), (45, ty45), (46, ty46), (47, ty47), (48, ty48), (49, ty49), (51, ty51), (53, ty53), (54, ty54), (55, ty55), (56, ty56), (57, ty57), (58, ty58), (59, ty59), (60, ty60), (61, ty61), (62, ty62), (63, ty63), (64, ty64), (66, ty66), (67, ty67), (68, ty68), (69, ty69), (70, ty70), (71, ty71), (72, ty72), (73, ty73), (74, ty74), (75, ty75), (76, ty76), (77, ty77), (78, ty78), (79, ty79), (80, ty80), (81, ty81), (82, ty82), (83, ty83), (84, ty84), (85, ty85), (86, ty86), (87, ty87), (88, ty88), (89, ty89), (90, ty90), (91, ty91), (92, ty92), (93, ty93), (94, ty94), (95, ty95), (96, ty96), (97, ty97), (98, ty98), (99, ty99), (100, ty100), (101, ty101), (102, ty102), (103, ty103), (104, ty104), (105, ty105), (106, ty106), (108, ty108), (109, ty109), (111, ty111), (112, ty112), (113, ty113), (115, ty115), (116, ty116), (118, ty118), (119, ty119), (120, ty120), (121, ty121), (122, ty122), (123, ty123), (124, ty124), (125, ty125), (126, ty126), (127, ty127), (128, ty128), (129, ty129), (130, ty130), (131, ty131), (132, ty132), (133, ty133), (134, ty134), (135, ty135), (136, ty136), (137, ty137), (138, ty138), (139, ty139), (140, ty140), (141, ty141), (142, ty142), (143, ty143), (145, ty145), (147, ty147), (148, ty148), (149, ty149), (150, ty150), (152, ty152), (153, ty153), (155, ty155), (156, ty156), (157, ty157), (158, ty158), (159, ty159), (160, ty160), (161, ty161), (162, ty162), (163, ty163), (164, ty164), (165, ty165), (167, ty167), (168, ty168), (169, ty169), (170, ty170), (171, ty171), (172, ty172), (173, ty173), (174, ty174), (175, ty175), (176, ty176), (177, ty177), (179, ty179), (180, ty180), (181, ty181), (182, ty182), (183, ty183), (184, ty184), (185, ty185), (186, ty186), (187, ty187), (188, ty188), (189, ty189), (190, ty190), (191, ty191), (192, ty192), (193, ty193), (194, ty194), (195, ty195), (196, ty196), (197, ty197), (198, ty198), (199, ty199), (200, ty200), (202, ty202), (208, ty208), (211, ty211)]
theorem ttok : TTok Tryz.prog tt := ttok_cons ty1_ok (ttok_cons ty2_ok (ttok_cons ty3_ok (ttok_cons ty4_ok (ttok_cons ty5_ok (ttok_cons ty9_ok (ttok_cons ty12_ok (ttok_cons ty21_ok (ttok_cons ty22_ok (ttok_cons ty23_ok (ttok_cons ty24_ok (ttok_cons ty25_ok (ttok_cons ty26_ok (ttok_cons ty27_ok (ttok_cons ty28_ok (ttok_cons ty29_ok (ttok_cons ty30_ok (ttok_cons ty31_ok (ttok_cons ty32_ok (ttok_cons ty33_ok (ttok_cons ty34_ok (ttok_cons ty35_ok (ttok_cons ty36_ok (ttok_cons ty37_ok (ttok_cons ty38_ok (ttok_cons ty39_ok (ttok_cons ty40_ok (ttok_cons ty41_ok (ttok_cons ty42_ok (ttok_cons ty43_ok (ttok_cons ty44_ok (ttok_cons ty45_ok (ttok_cons ty46_ok (ttok_cons ty47_ok (ttok_cons ty48_ok (ttok_cons ty49_ok (ttok_cons ty51_ok (ttok_cons ty53_ok (ttok_cons ty54_ok (ttok_cons ty55_ok (ttok_cons ty56_ok (ttok_cons ty57_ok (ttok_cons ty58_ok (ttok_cons ty59_ok (ttok_cons ty60_ok (ttok_cons ty61_ok (ttok_cons ty62_ok (ttok_cons ty63_ok (ttok_cons ty64_ok (ttok_cons ty66_ok (ttok_cons ty67_ok (ttok_cons ty68_ok (ttok_cons ty69_ok (ttok_cons ty70_ok (ttok_cons ty71_ok (ttok_cons ty72_ok (ttok_cons ty73_ok (ttok_cons ty74_ok (ttok_cons ty75_ok (ttok_cons ty76_ok (ttok_cons ty77_ok (ttok_cons ty78_ok (ttok_cons ty79_ok (ttok_cons ty80_ok (ttok_cons ty81_ok (ttok_cons ty82_ok (ttok_cons ty83_ok (ttok_cons ty84_ok (ttok_cons ty85_ok (ttok_cons ty86_ok (ttok_cons ty87_ok (ttok_cons ty88_ok (ttok_cons ty89_ok (ttok_cons ty90_ok (ttok_cons ty91_ok (ttok_cons ty92_ok (ttok_cons ty93_ok (ttok_cons ty94_ok (ttok_cons ty95_ok (ttok_cons ty96_ok (ttok_cons ty97_ok (ttok_cons ty98_ok (ttok_cons ty99_ok (ttok_cons ty100_ok (ttok_cons ty101_ok (ttok_cons ty102_ok (ttok_cons ty103_ok (ttok_cons ty104_ok (ttok_cons ty105_ok (ttok_cons ty106_ok (ttok_cons ty108_ok (ttok_cons ty109_ok (ttok_cons ty111_ok (ttok_cons ty112_ok (ttok_cons ty113_ok (ttok_cons ty115_ok (ttok_cons ty116_ok (ttok_cons ty118_ok (ttok_cons ty119_ok (ttok_cons ty120_ok (ttok_cons ty121_ok (ttok_cons ty122_ok (ttok_cons ty123_ok (ttok_cons ty124_ok (ttok_cons ty125_ok (ttok_cons ty126_ok (ttok_cons ty127_ok (ttok_cons ty128_ok (ttok_cons ty129_ok (ttok_cons ty130_ok (ttok_cons ty131_ok (ttok_cons ty132_ok (ttok_cons ty133_ok (ttok_cons ty134_ok (ttok_cons ty135_ok (ttok_cons ty136_ok (ttok_cons ty137_ok (ttok_cons ty138_ok (ttok_cons ty139_ok (ttok_cons ty140_ok (ttok_cons ty141_ok (ttok_cons ty142_ok (ttok_cons ty143_ok (ttok_cons ty145_ok (ttok_cons ty147_ok (ttok_cons ty148_ok (ttok_cons ty149_ok (ttok_cons ty150_ok (ttok_cons ty152_ok (ttok_cons ty153_ok (ttok_cons ty155_ok (ttok_cons ty156_ok (ttok_cons ty157_ok (ttok_cons ty158_ok (ttok_cons ty159_ok (ttok_cons ty160_ok (ttok_cons ty161_ok (ttok_cons ty162_ok (ttok_cons ty163_ok (ttok_cons ty164_ok (ttok_cons ty165_ok (ttok_cons ty167_ok (ttok_cons ty168_ok (ttok_cons ty169_ok (ttok_cons ty170_ok (ttok_cons ty171_ok (ttok_cons ty172_ok (ttok_cons ty173_ok (ttok_cons ty174_ok (ttok_cons ty175_ok (ttok_cons ty176_ok (ttok_cons ty177_ok (ttok_cons ty179_ok (ttok_cons ty180_ok (ttok_cons ty181_ok (ttok_cons ty182_ok (ttok_cons ty183_ok (ttok_cons ty184_ok (ttok_cons ty185_ok (ttok_cons ty186_ok (ttok_cons ty187_ok (ttok_cons ty188_ok (ttok_cons ty189_ok (ttok_cons ty190_ok (ttok_cons ty191_ok (ttok_cons ty192_ok (ttok_cons ty193_ok (ttok_cons ty194_ok (ttok_cons ty195_ok (ttok_cons ty196_ok (ttok_cons ty197_ok (ttok_cons ty198_ok (ttok_cons ty199_ok (ttok_cons ty200_ok (ttok_cons ty202_ok (ttok_cons ty208_ok (ttok_cons ty211_ok (ttok_nil _)))))))))))))))))))))))))))))))))))))))))))))))))))))))))))))))))))))))))))))))))))))))))))))))))))))))))))))))))))))))))))))))))))))))))))))))))))))))))))))))))))))))))))))))))
theorem nd {p : Prop} : (false = true) → p := fun h => by cases h
theorem hmix : Tryz.prog.follows .mixedOrders = true := by kernel_rfl
theorem fn8 : FnOK Tryz.prog 8 := ⟨_, Tryz.func8, by kernel_rfl, rfl⟩
theorem fn9 : FnOK Tryz.prog 9 := ⟨_, Tryz.func9, by kernel_rfl, rfl⟩
theorem fn11 : FnOK Tryz.prog 11 := ⟨_, Tryz.func11, by kernel_rfl, rfl⟩
theorem fn12 : FnOK Tryz.prog 12 := ⟨_, Tryz.func12, by kernel_rfl, rfl⟩
theorem fn14 : FnOK Tryz.prog 14 := ⟨_, Tryz.func14, by kernel_rfl, rfl⟩
theorem fn16 : FnOK Tryz.prog 16 := ⟨_, Tryz.func16, by kernel_rfl, rfl⟩
theorem fn18 : FnOK Tryz.prog 18 := ⟨_, Tryz.func18, by kernel_rfl, rfl⟩
theorem fn20 : FnOK Tryz.prog 20 := ⟨_, Tryz.func20, by kernel_rfl, rfl⟩
theorem fn21 : FnOK Tryz.prog 21 := ⟨_, Tryz.func21, by kernel_rfl, rfl⟩
theorem fn22 : FnOK Tryz.prog 22 := ⟨_, Tryz.func22, by kernel_rfl, rfl⟩
theorem fn23 : FnOK Tryz.prog 23 := ⟨_, Tryz.func23, by kernel_rfl, rfl⟩
theorem fn24 : FnOK Tryz.prog 24 := ⟨_, Tryz.func24, by kernel_rfl, rfl⟩
theorem fn25 : FnOK Tryz.prog 25 := ⟨_, Tryz.func25, by kernel_rfl, rfl⟩
theorem fn26 : FnOK Tryz.prog 26 := ⟨_, Tryz.func26, by kernel_rfl, rfl⟩
theorem fn27 : FnOK Tryz.prog 27 := ⟨_, Tryz.func27, by kernel_rfl, rfl⟩
theorem fn28 : FnOK Tryz.prog 28 := ⟨_, Tryz.func28, by kernel_rfl, rfl⟩
theorem fn29 : FnOK Tryz.prog 29 := ⟨_, Tryz.func29, by kernel_rfl, rfl⟩
theorem fn30 : FnOK Tryz.prog 30 := ⟨_, Tryz.func30, by kernel_rfl, rfl⟩
theorem fn31 : FnOK Tryz.prog 31 := ⟨_, Tryz.func31, by kernel_rfl, rfl⟩
theorem fn32 : FnOK Tryz.prog 32 := ⟨_, Tryz.func32, by kernel_rfl, rfl⟩
theorem fn33 : FnOK Tryz.prog 33 := ⟨_, Tryz.func33, by kernel_rfl, rfl⟩
theorem fn42 : FnOK Tryz.prog 42 := ⟨_, Tryz.func42, by kernel_rfl, rfl⟩
theorem fn43 : FnOK Tryz.prog 43 := ⟨_, Tryz.func43, by kernel_rfl, rfl⟩
theorem fn44 : FnOK Tryz.prog 44 := ⟨_, Tryz.func44, by kernel_rfl, rfl⟩
theorem fn45 : FnOK Tryz.prog 45 := ⟨_, Tryz.func45, by kernel_rfl, rfl⟩
theorem fn50 : FnOK Tryz.prog 50 := ⟨_, Tryz.func50, by kernel_rfl, rfl⟩
theorem fn51 : FnOK Tryz.prog 51 := ⟨_, Tryz.func51, by kernel_rfl, rfl⟩
theorem fn52 : FnOK Tryz.prog 52 := ⟨_, Tryz.func52, by kernel_rfl, rfl⟩
theorem fn53 : FnOK Tryz.prog 53 := ⟨_, Tryz.func53, by kernel_rfl, rfl⟩
theorem fn54 : FnOK Tryz.prog 54 := ⟨_, Tryz.func54, by kernel_rfl, rfl⟩
theorem fn60 : FnOK Tryz.prog 60 := ⟨_, Tryz.func60, by kernel_rfl, rfl⟩
theorem fn61 : FnOK Tryz.prog 61 := ⟨_, Tryz.func61, by kernel_rfl, rfl⟩
theorem fn62 : FnOK Tryz.prog 62 := ⟨_, Tryz.func62, by kernel_rfl, rfl⟩
theorem fn63 : FnOK Tryz.prog 63 := ⟨_, Tryz.func63, by kernel_rfl, rfl⟩
theorem fn64 : FnOK Tryz.prog 64 := ⟨_, Tryz.func64, by kernel_rfl, rfl⟩
theorem fn65 : FnOK Tryz.prog 65 := ⟨_, Tryz.func65, by kernel_rfl, rfl⟩
theorem fn71 : FnOK Tryz.prog 71 := ⟨_, Tryz.func71, by kernel_rfl, rfl⟩
theorem fn72 : FnOK Tryz.prog 72 := ⟨_, Tryz.func72, by kernel_rfl, rfl⟩
theorem fn73 : FnOK Tryz.prog 73 := ⟨_, Tryz.func73, by kernel_rfl, rfl⟩
theorem fn74 : FnOK Tryz.prog 74 := ⟨_, Tryz.func74, by kernel_rfl, rfl⟩
theorem fn75 : FnOK Tryz.prog 75 := ⟨_, Tryz.func75, by kernel_rfl, rfl⟩
theorem fn76 : FnOK Tryz.prog 76 := ⟨_, Tryz.func76, by kernel_rfl, rfl⟩
theorem fn77 : FnOK Tryz.prog 77 := ⟨_, Tryz.func77, by kernel_rfl, rfl⟩
theorem fn78 : FnOK Tryz.prog 78 := ⟨_, Tryz.func78, by kernel_rfl, rfl⟩
theorem fn79 : FnOK Tryz.prog 79 := ⟨_, Tryz.func79, by kernel_rfl, rfl⟩
theorem fn80 : FnOK Tryz.prog 80 := ⟨_, Tryz.func80, by kernel_rfl, rfl⟩
theorem fn81 : FnOK Tryz.prog 81 := ⟨_, Tryz.func81, by kernel_rfl, rfl⟩
theorem fn82 : FnOK Tryz.prog 82 := ⟨_, Tryz.func82, by kernel_rfl, rfl⟩
theorem fn83 : FnOK Tryz.prog 83 := ⟨_, Tryz.func83, by kernel_rfl, rfl⟩
theorem fn88 : FnOK Tryz.prog 88 := ⟨_, Tryz.func88, by kernel_rfl, rfl⟩
theorem fn89 : FnOK Tryz.prog 89 := ⟨_, Tryz.func89, by kernel_rfl, rfl⟩
theorem fn90 : FnOK Tryz.prog 90 := ⟨_, Tryz.func90, by kernel_rfl, rfl⟩
theorem fn91 : FnOK Tryz.prog 91 := ⟨_, Tryz.func91, by kernel_rfl, rfl⟩
theorem fn102 : FnOK Tryz.prog 102 := ⟨_, Tryz.func102, by kernel_rfl, rfl⟩
theorem fn103 : FnOK Tryz.prog 103 := ⟨_, Tryz.func103, by kernel_rfl, rfl⟩
theorem fn104 : FnOK Tryz.prog 104 := ⟨_, Tryz.func104, by kernel_rfl, rfl⟩
theorem fn105 : FnOK Tryz.prog 105 := ⟨_, Tryz.func105, by kernel_rfl, rfl⟩
theorem fn106 : FnOK Tryz.prog 106 := ⟨_, Tryz.func106, by kernel_rfl, rfl⟩
theorem fn109 : FnOK Tryz.prog 109 := ⟨_, Tryz.func109, by kernel_rfl, rfl⟩
theorem fn110 : FnOK Tryz.prog 110 := ⟨_, Tryz.func110, by kernel_rfl, rfl⟩
theorem fn111 : FnOK Tryz.prog 111 := ⟨_, Tryz.func111, by kernel_rfl, rfl⟩
theorem fn112 : FnOK Tryz.prog 112 := ⟨_, Tryz.func112, by kernel_rfl, rfl⟩
theorem fn113 : FnOK Tryz.prog 113 := ⟨_, Tryz.func113, by kernel_rfl, rfl⟩
theorem fn114 : FnOK Tryz.prog 114 := ⟨_, Tryz.func114, by kernel_rfl, rfl⟩
theorem fn115 : FnOK Tryz.prog 115 := ⟨_, Tryz.func115, by kernel_rfl, rfl⟩
theorem fn121 : FnOK Tryz.prog 121 := ⟨_, Tryz.func121, by kernel_rfl, rfl⟩
theorem fn122 : FnOK Tryz.prog 122 := ⟨_, Tryz.func122, by kernel_rfl, rfl⟩
theorem fn123 : FnOK Tryz.prog 123 := ⟨_, Tryz.func123, by kernel_rfl, rfl⟩
theorem fn124 : FnOK Tryz.prog 124 := ⟨_, Tryz.func124, by kernel_rfl, rfl⟩
theorem fn125 : FnOK Tryz.prog 125 := ⟨_, Tryz.func125, by kernel_rfl, rfl⟩
theorem fn126 : FnOK Tryz.prog 126 := ⟨_, Tryz.func126, by kernel_rfl, rfl⟩
theorem fn127 : FnOK Tryz.prog 127 := ⟨_, Tryz.func127, by kernel_rfl, rfl⟩
theorem fn128 : FnOK Tryz.prog 128 := ⟨_, Tryz.func128, by kernel_rfl, rfl⟩
theorem fn129 : FnOK Tryz.prog 129 := ⟨_, Tryz.func129, by kernel_rfl, rfl⟩
theorem fn132 : FnOK Tryz.prog 132 := ⟨_, Tryz.func132, by kernel_rfl, rfl⟩
theorem fn133 : FnOK Tryz.prog 133 := ⟨_, Tryz.func133, by kernel_rfl, rfl⟩
theorem fn134 : FnOK Tryz.prog 134 := ⟨_, Tryz.func134, by kernel_rfl, rfl⟩
theorem fn135 : FnOK Tryz.prog 135 := ⟨_, Tryz.func135, by kernel_rfl, rfl⟩
theorem fn136 : FnOK Tryz.prog 136 := ⟨_, Tryz.func136, by kernel_rfl, rfl⟩
theorem fn137 : FnOK Tryz.prog 137 := ⟨_, Tryz.func137, by kernel_rfl, rfl⟩
theorem fn138 : FnOK Tryz.prog 138 := ⟨_, Tryz.func138, by kernel_rfl, rfl⟩
theorem fn139 : FnOK Tryz.prog 139 := ⟨_, Tryz.func139, by kernel_rfl, rfl⟩
theorem fn140 : FnOK Tryz.prog 140 := ⟨_, Tryz.func140, by kernel_rfl, rfl⟩
theorem fn141 : FnOK Tryz.prog 141 := ⟨_, Tryz.func141, by kernel_rfl, rfl⟩
theorem fn142 : FnOK Tryz.prog 142 := ⟨_, Tryz.func142, by kernel_rfl, rfl⟩
theorem fn143 : FnOK Tryz.prog 143 := ⟨_, Tryz.func143, by kernel_rfl, rfl⟩
theorem fn144 : FnOK Tryz.prog 144 := ⟨_, Tryz.func144, by kernel_rfl, rfl⟩
theorem fn154 : FnOK Tryz.prog 154 := ⟨_, Tryz.func154, by kernel_rfl, rfl⟩
theorem fn156 : FnOK Tryz.prog 156 := ⟨_, Tryz.func156, by kernel_rfl, rfl⟩
theorem fn157 : FnOK Tryz.prog 157 := ⟨_, Tryz.func157, by kernel_rfl, rfl⟩
theorem fn158 : FnOK Tryz.prog 158 := ⟨_, Tryz.func158, by kernel_rfl, rfl⟩
theorem fn159 : FnOK Tryz.prog 159 := ⟨_, Tryz.func159, by kernel_rfl, rfl⟩
theorem fn160 : FnOK Tryz.prog 160 := ⟨_, Tryz.func160, by kernel_rfl, rfl⟩
theorem fn161 : FnOK Tryz.prog 161 := ⟨_, Tryz.func161, by kernel_rfl, rfl⟩
theorem fn162 : FnOK Tryz.prog 162 := ⟨_, Tryz.func162, by kernel_rfl, rfl⟩
theorem fn163 : FnOK Tryz.prog 163 := ⟨_, Tryz.func163, by kernel_rfl, rfl⟩
theorem fn164 : FnOK Tryz.prog 164 := ⟨_, Tryz.func164, by kernel_rfl, rfl⟩
theorem fn165 : FnOK Tryz.prog 165 := ⟨_, Tryz.func165, by kernel_rfl, rfl⟩
theorem fn169 : FnOK Tryz.prog 169 := ⟨_, Tryz.func169, by kernel_rfl, rfl⟩
theorem fn170 : FnOK Tryz.prog 170 := ⟨_, Tryz.func170, by kernel_rfl, rfl⟩
end Go.Proofs.YtpoehckffpbfiaaGreat
