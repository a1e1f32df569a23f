/- Closed facts on the translation's types and functions, for the evaluation; written by a program of this claim's author. -/
import Derived.Test.YtoapdhogghbojaaDoorM1
import Derived.Test.YtoapdhogghbojaaDoorProg
import Derived.KernelRfl
import Derived.Lib.ConvBytes
namespace Go.Proofs.YtoapdhogghbojaaDoor.Facts
open Go.Abs
@[push_cast] theorem tk1 : tk Tryd.prog 1 = .scal := by kernel_rfl
@[push_cast] theorem zc1 : zc Tryd.prog 1 = some [.nilFunc] := by kernel_rfl
@[push_cast] theorem nk1 : nk Tryd.prog 1 = .fnc := by kernel_rfl
@[push_cast] theorem cc1 : Go.Abs.concrete Tryd.prog 1 = true := by kernel_rfl
@[push_cast] theorem isl1 : isSlc Tryd.prog 1 = false := by kernel_rfl
@[push_cast] theorem ist1 : isStr Tryd.prog 1 = false := by kernel_rfl
@[push_cast] theorem ik1 : ikd Tryd.prog 1 = none := by kernel_rfl
@[push_cast] theorem tk2 : tk Tryd.prog 2 = .scal := by kernel_rfl
@[push_cast] theorem zc2 : zc Tryd.prog 2 = some [.int .i64 0] := by kernel_rfl
@[push_cast] theorem nk2 : nk Tryd.prog 2 = .other := by kernel_rfl
@[push_cast] theorem cc2 : Go.Abs.concrete Tryd.prog 2 = true := by kernel_rfl
@[push_cast] theorem isl2 : isSlc Tryd.prog 2 = false := by kernel_rfl
@[push_cast] theorem ist2 : isStr Tryd.prog 2 = false := by kernel_rfl
@[push_cast] theorem ik2 : ikd Tryd.prog 2 = some .i64 := by kernel_rfl
@[push_cast] theorem tk3 : tk Tryd.prog 3 = .scal := by kernel_rfl
@[push_cast] theorem zc3 : zc Tryd.prog 3 = some [.int .i64 0] := by kernel_rfl
@[push_cast] theorem nk3 : nk Tryd.prog 3 = .other := by kernel_rfl
@[push_cast] theorem cc3 : Go.Abs.concrete Tryd.prog 3 = true := by kernel_rfl
@[push_cast] theorem isl3 : isSlc Tryd.prog 3 = false := by kernel_rfl
@[push_cast] theorem ist3 : isStr Tryd.prog 3 = false := by kernel_rfl
@[push_cast] theorem ik3 : ikd Tryd.prog 3 = some .i64 := by kernel_rfl
@[push_cast] theorem tk4 : tk Tryd.prog 4 = .scal := by kernel_rfl
@[push_cast] theorem zc4 : zc Tryd.prog 4 = some [.bool false] := by kernel_rfl
@[push_cast] theorem nk4 : nk Tryd.prog 4 = .other := by kernel_rfl
@[push_cast] theorem cc4 : Go.Abs.concrete Tryd.prog 4 = true := by kernel_rfl
@[push_cast] theorem isl4 : isSlc Tryd.prog 4 = false := by kernel_rfl
@[push_cast] theorem ist4 : isStr Tryd.prog 4 = false := by kernel_rfl
@[push_cast] theorem ik4 : ikd Tryd.prog 4 = none := by kernel_rfl
@[push_cast] theorem tk5 : tk Tryd.prog 5 = .scal := by kernel_rfl
@[push_cast] theorem zc5 : zc Tryd.prog 5 = some [.int .u8 0] := by kernel_rfl
@[push_cast] theorem nk5 : nk Tryd.prog 5 = .other := by kernel_rfl
@[push_cast] theorem cc5 : Go.Abs.concrete Tryd.prog 5 = true := by kernel_rfl
@[push_cast] theorem isl5 : isSlc Tryd.prog 5 = false := by kernel_rfl
@[push_cast] theorem ist5 : isStr Tryd.prog 5 = false := by kernel_rfl
@[push_cast] theorem ik5 : ikd Tryd.prog 5 = some .u8 := by kernel_rfl
@[push_cast] theorem tk6 : tk Tryd.prog 6 = .scal := by kernel_rfl
@[push_cast] theorem zc6 : zc Tryd.prog 6 = some [.int .u8 0] := by kernel_rfl
@[push_cast] theorem nk6 : nk Tryd.prog 6 = .other := by kernel_rfl
@[push_cast] theorem cc6 : Go.Abs.concrete Tryd.prog 6 = true := by kernel_rfl
@[push_cast] theorem isl6 : isSlc Tryd.prog 6 = false := by kernel_rfl
@[push_cast] theorem ist6 : isStr Tryd.prog 6 = false := by kernel_rfl
@[push_cast] theorem ik6 : ikd Tryd.prog 6 = some .u8 := by kernel_rfl
@[push_cast] theorem tk7 : tk Tryd.prog 7 = .aggr 4 := by kernel_rfl
@[push_cast] theorem zc7 : zc Tryd.prog 7 = some [.int .i64 0, .int .i64 0, .bool false, .int .u8 0] := by kernel_rfl
@[push_cast] theorem fld7_0 : fld Tryd.prog 7 0 = some (0, .scal) := by kernel_rfl
@[push_cast] theorem fld7_1 : fld Tryd.prog 7 1 = some (1, .scal) := by kernel_rfl
@[push_cast] theorem fld7_2 : fld Tryd.prog 7 2 = some (2, .scal) := by kernel_rfl
@[push_cast] theorem fld7_3 : fld Tryd.prog 7 3 = some (3, .scal) := by kernel_rfl
@[push_cast] theorem pl7 : places Tryd.prog 7 = some [(0, 1), (1, 1), (2, 1), (3, 1)] := by kernel_rfl
@[push_cast] theorem nk7 : nk Tryd.prog 7 = .other := by kernel_rfl
@[push_cast] theorem cc7 : Go.Abs.concrete Tryd.prog 7 = true := by kernel_rfl
@[push_cast] theorem isl7 : isSlc Tryd.prog 7 = false := by kernel_rfl
@[push_cast] theorem ist7 : isStr Tryd.prog 7 = false := by kernel_rfl
@[push_cast] theorem ik7 : ikd Tryd.prog 7 = none := by kernel_rfl
@[push_cast] theorem tk8 : tk Tryd.prog 8 = .aggr 4 := by kernel_rfl
@[push_cast] theorem zc8 : zc Tryd.prog 8 = some [.int .i64 0, .int .i64 0, .bool false, .int .u8 0] := by kernel_rfl
@[push_cast] theorem fld8_0 : fld Tryd.prog 8 0 = some (0, .scal) := by kernel_rfl
@[push_cast] theorem fld8_1 : fld Tryd.prog 8 1 = some (1, .scal) := by kernel_rfl
@[push_cast] theorem fld8_2 : fld Tryd.prog 8 2 = some (2, .scal) := by kernel_rfl
@[push_cast] theorem fld8_3 : fld Tryd.prog 8 3 = some (3, .scal) := by kernel_rfl
@[push_cast] theorem pl8 : places Tryd.prog 8 = some [(0, 1), (1, 1), (2, 1), (3, 1)] := by kernel_rfl
@[push_cast] theorem nk8 : nk Tryd.prog 8 = .other := by kernel_rfl
@[push_cast] theorem cc8 : Go.Abs.concrete Tryd.prog 8 = true := by kernel_rfl
@[push_cast] theorem isl8 : isSlc Tryd.prog 8 = false := by kernel_rfl
@[push_cast] theorem ist8 : isStr Tryd.prog 8 = false := by kernel_rfl
@[push_cast] theorem ik8 : ikd Tryd.prog 8 = none := by kernel_rfl
@[push_cast] theorem tk9 : tk Tryd.prog 9 = .scal := by kernel_rfl
@[push_cast] theorem zc9 : zc Tryd.prog 9 = some [.string ⟨#[]⟩] := by kernel_rfl
@[push_cast] theorem nk9 : nk Tryd.prog 9 = .other := by kernel_rfl
@[push_cast] theorem cc9 : Go.Abs.concrete Tryd.prog 9 = true := by kernel_rfl
@[push_cast] theorem isl9 : isSlc Tryd.prog 9 = false := by kernel_rfl
@[push_cast] theorem ist9 : isStr Tryd.prog 9 = true := by kernel_rfl
@[push_cast] theorem ik9 : ikd Tryd.prog 9 = none := by kernel_rfl
@[push_cast] theorem tk10 : tk Tryd.prog 10 = .scal := by kernel_rfl
@[push_cast] theorem zc10 : zc Tryd.prog 10 = some [.string ⟨#[]⟩] := by kernel_rfl
@[push_cast] theorem nk10 : nk Tryd.prog 10 = .other := by kernel_rfl
@[push_cast] theorem cc10 : Go.Abs.concrete Tryd.prog 10 = true := by kernel_rfl
@[push_cast] theorem isl10 : isSlc Tryd.prog 10 = false := by kernel_rfl
@[push_cast] theorem ist10 : isStr Tryd.prog 10 = true := by kernel_rfl
@[push_cast] theorem ik10 : ikd Tryd.prog 10 = none := by kernel_rfl
@[push_cast] theorem tk11 : tk Tryd.prog 11 = .scal := by kernel_rfl
@[push_cast] theorem zc11 : zc Tryd.prog 11 = some [.string ⟨#[]⟩] := by kernel_rfl
@[push_cast] theorem nk11 : nk Tryd.prog 11 = .other := by kernel_rfl
@[push_cast] theorem cc11 : Go.Abs.concrete Tryd.prog 11 = true := by kernel_rfl
@[push_cast] theorem isl11 : isSlc Tryd.prog 11 = false := by kernel_rfl
@[push_cast] theorem ist11 : isStr Tryd.prog 11 = true := by kernel_rfl
@[push_cast] theorem ik11 : ikd Tryd.prog 11 = none := by kernel_rfl
@[push_cast] theorem tk12 : tk Tryd.prog 12 = .scal := by kernel_rfl
@[push_cast] theorem zc12 : zc Tryd.prog 12 = some [.int .u64 0] := by kernel_rfl
@[push_cast] theorem nk12 : nk Tryd.prog 12 = .other := by kernel_rfl
@[push_cast] theorem cc12 : Go.Abs.concrete Tryd.prog 12 = true := by kernel_rfl
@[push_cast] theorem isl12 : isSlc Tryd.prog 12 = false := by kernel_rfl
@[push_cast] theorem ist12 : isStr Tryd.prog 12 = false := by kernel_rfl
@[push_cast] theorem ik12 : ikd Tryd.prog 12 = some .u64 := by kernel_rfl
@[push_cast] theorem tk13 : tk Tryd.prog 13 = .aggr 2 := by kernel_rfl
@[push_cast] theorem zc13 : zc Tryd.prog 13 = some [.string ⟨#[]⟩, .int .u64 0] := by kernel_rfl
@[push_cast] theorem fld13_0 : fld Tryd.prog 13 0 = some (0, .scal) := by kernel_rfl
@[push_cast] theorem fld13_1 : fld Tryd.prog 13 1 = some (1, .scal) := by kernel_rfl
@[push_cast] theorem pl13 : places Tryd.prog 13 = some [(0, 1), (1, 1)] := by kernel_rfl
@[push_cast] theorem nk13 : nk Tryd.prog 13 = .other := by kernel_rfl
@[push_cast] theorem cc13 : Go.Abs.concrete Tryd.prog 13 = true := by kernel_rfl
@[push_cast] theorem isl13 : isSlc Tryd.prog 13 = false := by kernel_rfl
@[push_cast] theorem ist13 : isStr Tryd.prog 13 = false := by kernel_rfl
@[push_cast] theorem ik13 : ikd Tryd.prog 13 = none := by kernel_rfl
@[push_cast] theorem tk14 : tk Tryd.prog 14 = .aggr 2 := by kernel_rfl
@[push_cast] theorem zc14 : zc Tryd.prog 14 = some [.string ⟨#[]⟩, .int .u64 0] := by kernel_rfl
@[push_cast] theorem fld14_0 : fld Tryd.prog 14 0 = some (0, .scal) := by kernel_rfl
@[push_cast] theorem fld14_1 : fld Tryd.prog 14 1 = some (1, .scal) := by kernel_rfl
@[push_cast] theorem pl14 : places Tryd.prog 14 = some [(0, 1), (1, 1)] := by kernel_rfl
@[push_cast] theorem nk14 : nk Tryd.prog 14 = .other := by kernel_rfl
@[push_cast] theorem cc14 : Go.Abs.concrete Tryd.prog 14 = true := by kernel_rfl
@[push_cast] theorem isl14 : isSlc Tryd.prog 14 = false := by kernel_rfl
@[push_cast] theorem ist14 : isStr Tryd.prog 14 = false := by kernel_rfl
@[push_cast] theorem ik14 : ikd Tryd.prog 14 = none := by kernel_rfl
@[push_cast] theorem tk15 : tk Tryd.prog 15 = .scal := by kernel_rfl
@[push_cast] theorem zc15 : zc Tryd.prog 15 = some [.pointer none] := by kernel_rfl
@[push_cast] theorem nk15 : nk Tryd.prog 15 = .ptr := by kernel_rfl
@[push_cast] theorem cc15 : Go.Abs.concrete Tryd.prog 15 = true := by kernel_rfl
@[push_cast] theorem isl15 : isSlc Tryd.prog 15 = false := by kernel_rfl
@[push_cast] theorem ist15 : isStr Tryd.prog 15 = false := by kernel_rfl
@[push_cast] theorem ik15 : ikd Tryd.prog 15 = none := by kernel_rfl
@[push_cast] theorem tk16 : tk Tryd.prog 16 = .scal := by kernel_rfl
@[push_cast] theorem zc16 : zc Tryd.prog 16 = some [.pointer none] := by kernel_rfl
@[push_cast] theorem nk16 : nk Tryd.prog 16 = .ptr := by kernel_rfl
@[push_cast] theorem cc16 : Go.Abs.concrete Tryd.prog 16 = true := by kernel_rfl
@[push_cast] theorem isl16 : isSlc Tryd.prog 16 = false := by kernel_rfl
@[push_cast] theorem ist16 : isStr Tryd.prog 16 = false := by kernel_rfl
@[push_cast] theorem ik16 : ikd Tryd.prog 16 = none := by kernel_rfl
@[push_cast] theorem tk17 : tk Tryd.prog 17 = .scal := by kernel_rfl
@[push_cast] theorem zc17 : zc Tryd.prog 17 = some [.pointer none] := by kernel_rfl
@[push_cast] theorem nk17 : nk Tryd.prog 17 = .ptr := by kernel_rfl
@[push_cast] theorem cc17 : Go.Abs.concrete Tryd.prog 17 = true := by kernel_rfl
@[push_cast] theorem isl17 : isSlc Tryd.prog 17 = false := by kernel_rfl
@[push_cast] theorem ist17 : isStr Tryd.prog 17 = false := by kernel_rfl
@[push_cast] theorem ik17 : ikd Tryd.prog 17 = none := by kernel_rfl
@[push_cast] theorem tk18 : tk Tryd.prog 18 = .aggr 1 := by kernel_rfl
@[push_cast] theorem zc18 : zc Tryd.prog 18 = some [.pointer none] := by kernel_rfl
@[push_cast] theorem fld18_0 : fld Tryd.prog 18 0 = some (0, .scal) := by kernel_rfl
@[push_cast] theorem pl18 : places Tryd.prog 18 = some [(0, 1)] := by kernel_rfl
@[push_cast] theorem nk18 : nk Tryd.prog 18 = .other := by kernel_rfl
@[push_cast] theorem cc18 : Go.Abs.concrete Tryd.prog 18 = true := by kernel_rfl
@[push_cast] theorem isl18 : isSlc Tryd.prog 18 = false := by kernel_rfl
@[push_cast] theorem ist18 : isStr Tryd.prog 18 = false := by kernel_rfl
@[push_cast] theorem ik18 : ikd Tryd.prog 18 = none := by kernel_rfl
@[push_cast] theorem tk19 : tk Tryd.prog 19 = .aggr 1 := by kernel_rfl
@[push_cast] theorem zc19 : zc Tryd.prog 19 = some [.pointer none] := by kernel_rfl
@[push_cast] theorem fld19_0 : fld Tryd.prog 19 0 = some (0, .scal) := by kernel_rfl
@[push_cast] theorem pl19 : places Tryd.prog 19 = some [(0, 1)] := by kernel_rfl
@[push_cast] theorem nk19 : nk Tryd.prog 19 = .other := by kernel_rfl
@[push_cast] theorem cc19 : Go.Abs.concrete Tryd.prog 19 = true := by kernel_rfl
@[push_cast] theorem isl19 : isSlc Tryd.prog 19 = false := by kernel_rfl
@[push_cast] theorem ist19 : isStr Tryd.prog 19 = false := by kernel_rfl
@[push_cast] theorem ik19 : ikd Tryd.prog 19 = none := by kernel_rfl
@[push_cast] theorem tk20 : tk Tryd.prog 20 = .scal := by kernel_rfl
@[push_cast] theorem zc20 : zc Tryd.prog 20 = some [.nilIface] := by kernel_rfl
@[push_cast] theorem nk20 : nk Tryd.prog 20 = .ifc := by kernel_rfl
@[push_cast] theorem isl20 : isSlc Tryd.prog 20 = false := by kernel_rfl
@[push_cast] theorem ist20 : isStr Tryd.prog 20 = false := by kernel_rfl
@[push_cast] theorem ik20 : ikd Tryd.prog 20 = none := by kernel_rfl
@[push_cast] theorem tk21 : tk Tryd.prog 21 = .scal := by kernel_rfl
@[push_cast] theorem zc21 : zc Tryd.prog 21 = some [.int .i32 0] := by kernel_rfl
@[push_cast] theorem nk21 : nk Tryd.prog 21 = .other := by kernel_rfl
@[push_cast] theorem cc21 : Go.Abs.concrete Tryd.prog 21 = true := by kernel_rfl
@[push_cast] theorem isl21 : isSlc Tryd.prog 21 = false := by kernel_rfl
@[push_cast] theorem ist21 : isStr Tryd.prog 21 = false := by kernel_rfl
@[push_cast] theorem ik21 : ikd Tryd.prog 21 = some .i32 := by kernel_rfl
@[push_cast] theorem tk22 : tk Tryd.prog 22 = .scal := by kernel_rfl
@[push_cast] theorem zc22 : zc Tryd.prog 22 = some [.int .u32 0] := by kernel_rfl
@[push_cast] theorem nk22 : nk Tryd.prog 22 = .other := by kernel_rfl
@[push_cast] theorem cc22 : Go.Abs.concrete Tryd.prog 22 = true := by kernel_rfl
@[push_cast] theorem isl22 : isSlc Tryd.prog 22 = false := by kernel_rfl
@[push_cast] theorem ist22 : isStr Tryd.prog 22 = false := by kernel_rfl
@[push_cast] theorem ik22 : ikd Tryd.prog 22 = some .u32 := by kernel_rfl
@[push_cast] theorem tk23 : tk Tryd.prog 23 = .scal := by kernel_rfl
@[push_cast] theorem zc23 : zc Tryd.prog 23 = some [.int .u16 0] := by kernel_rfl
@[push_cast] theorem nk23 : nk Tryd.prog 23 = .other := by kernel_rfl
@[push_cast] theorem cc23 : Go.Abs.concrete Tryd.prog 23 = true := by kernel_rfl
@[push_cast] theorem isl23 : isSlc Tryd.prog 23 = false := by kernel_rfl
@[push_cast] theorem ist23 : isStr Tryd.prog 23 = false := by kernel_rfl
@[push_cast] theorem ik23 : ikd Tryd.prog 23 = some .u16 := by kernel_rfl
@[push_cast] theorem tk24 : tk Tryd.prog 24 = .scal := by kernel_rfl
@[push_cast] theorem zc24 : zc Tryd.prog 24 = some [.slice none 0 0] := by kernel_rfl
@[push_cast] theorem nk24 : nk Tryd.prog 24 = .slc := by kernel_rfl
@[push_cast] theorem cc24 : Go.Abs.concrete Tryd.prog 24 = true := by kernel_rfl
@[push_cast] theorem isl24 : isSlc Tryd.prog 24 = true := by kernel_rfl
@[push_cast] theorem ist24 : isStr Tryd.prog 24 = false := by kernel_rfl
@[push_cast] theorem ik24 : ikd Tryd.prog 24 = none := by kernel_rfl
@[push_cast] theorem es24 : elSz Tryd.prog 24 = some 1 := by kernel_rfl
@[push_cast] theorem eb24 : elB Tryd.prog 24 = 1 := by kernel_rfl
@[push_cast] theorem el24 : elT Tryd.prog 24 = some 5 := by kernel_rfl
@[push_cast] theorem by24 : isBys Tryd.prog 24 = true := by kernel_rfl
@[push_cast] theorem tk25 : tk Tryd.prog 25 = .aggr 10 := by kernel_rfl
@[push_cast] theorem zc25 : zc Tryd.prog 25 = some [.bool false, .int .u32 0, .int .u16 0, .int .u32 0, .int .u32 0, .bool false, .bool false, .bool false, .bool false, .slice none 0 0] := by kernel_rfl
@[push_cast] theorem fld25_0 : fld Tryd.prog 25 0 = some (0, .scal) := by kernel_rfl
@[push_cast] theorem fld25_1 : fld Tryd.prog 25 1 = some (1, .scal) := by kernel_rfl
@[push_cast] theorem fld25_2 : fld Tryd.prog 25 2 = some (2, .scal) := by kernel_rfl
@[push_cast] theorem fld25_3 : fld Tryd.prog 25 3 = some (3, .scal) := by kernel_rfl
@[push_cast] theorem fld25_4 : fld Tryd.prog 25 4 = some (4, .scal) := by kernel_rfl
@[push_cast] theorem fld25_5 : fld Tryd.prog 25 5 = some (5, .scal) := by kernel_rfl
@[push_cast] theorem fld25_6 : fld Tryd.prog 25 6 = some (6, .scal) := by kernel_rfl
@[push_cast] theorem fld25_7 : fld Tryd.prog 25 7 = some (7, .scal) := by kernel_rfl
@[push_cast] theorem fld25_8 : fld Tryd.prog 25 8 = some (8, .scal) := by kernel_rfl
@[push_cast] theorem fld25_9 : fld Tryd.prog 25 9 = some (9, .scal) := by kernel_rfl
@[push_cast] theorem pl25 : places Tryd.prog 25 = some [(0, 1), (1, 1), (2, 1), (3, 1), (4, 1), (5, 1), (6, 1), (7, 1), (8, 1), (9, 1)] := by kernel_rfl
@[push_cast] theorem nk25 : nk Tryd.prog 25 = .other := by kernel_rfl
@[push_cast] theorem cc25 : Go.Abs.concrete Tryd.prog 25 = true := by kernel_rfl
@[push_cast] theorem isl25 : isSlc Tryd.prog 25 = false := by kernel_rfl
@[push_cast] theorem ist25 : isStr Tryd.prog 25 = false := by kernel_rfl
@[push_cast] theorem ik25 : ikd Tryd.prog 25 = none := by kernel_rfl
@[push_cast] theorem tk26 : tk Tryd.prog 26 = .aggr 10 := by kernel_rfl
@[push_cast] theorem zc26 : zc Tryd.prog 26 = some [.bool false, .int .u32 0, .int .u16 0, .int .u32 0, .int .u32 0, .bool false, .bool false, .bool false, .bool false, .slice none 0 0] := by kernel_rfl
@[push_cast] theorem fld26_0 : fld Tryd.prog 26 0 = some (0, .scal) := by kernel_rfl
@[push_cast] theorem fld26_1 : fld Tryd.prog 26 1 = some (1, .scal) := by kernel_rfl
@[push_cast] theorem fld26_2 : fld Tryd.prog 26 2 = some (2, .scal) := by kernel_rfl
@[push_cast] theorem fld26_3 : fld Tryd.prog 26 3 = some (3, .scal) := by kernel_rfl
@[push_cast] theorem fld26_4 : fld Tryd.prog 26 4 = some (4, .scal) := by kernel_rfl
@[push_cast] theorem fld26_5 : fld Tryd.prog 26 5 = some (5, .scal) := by kernel_rfl
@[push_cast] theorem fld26_6 : fld Tryd.prog 26 6 = some (6, .scal) := by kernel_rfl
@[push_cast] theorem fld26_7 : fld Tryd.prog 26 7 = some (7, .scal) := by kernel_rfl
@[push_cast] theorem fld26_8 : fld Tryd.prog 26 8 = some (8, .scal) := by kernel_rfl
@[push_cast] theorem fld26_9 : fld Tryd.prog 26 9 = some (9, .scal) := by kernel_rfl
@[push_cast] theorem pl26 : places Tryd.prog 26 = some [(0, 1), (1, 1), (2, 1), (3, 1), (4, 1), (5, 1), (6, 1), (7, 1), (8, 1), (9, 1)] := by kernel_rfl
@[push_cast] theorem nk26 : nk Tryd.prog 26 = .other := by kernel_rfl
@[push_cast] theorem cc26 : Go.Abs.concrete Tryd.prog 26 = true := by kernel_rfl
@[push_cast] theorem isl26 : isSlc Tryd.prog 26 = false := by kernel_rfl
@[push_cast] theorem ist26 : isStr Tryd.prog 26 = false := by kernel_rfl
@[push_cast] theorem ik26 : ikd Tryd.prog 26 = none := by kernel_rfl
@[push_cast] theorem tk27 : tk Tryd.prog 27 = .scal := by kernel_rfl
@[push_cast] theorem zc27 : zc Tryd.prog 27 = some [.nilFunc] := by kernel_rfl
@[push_cast] theorem nk27 : nk Tryd.prog 27 = .fnc := by kernel_rfl
@[push_cast] theorem cc27 : Go.Abs.concrete Tryd.prog 27 = true := by kernel_rfl
@[push_cast] theorem isl27 : isSlc Tryd.prog 27 = false := by kernel_rfl
@[push_cast] theorem ist27 : isStr Tryd.prog 27 = false := by kernel_rfl
@[push_cast] theorem ik27 : ikd Tryd.prog 27 = none := by kernel_rfl
@[push_cast] theorem tk28 : tk Tryd.prog 28 = .scal := by kernel_rfl
@[push_cast] theorem zc28 : zc Tryd.prog 28 = some [.nilFunc] := by kernel_rfl
@[push_cast] theorem nk28 : nk Tryd.prog 28 = .fnc := by kernel_rfl
@[push_cast] theorem cc28 : Go.Abs.concrete Tryd.prog 28 = true := by kernel_rfl
@[push_cast] theorem isl28 : isSlc Tryd.prog 28 = false := by kernel_rfl
@[push_cast] theorem ist28 : isStr Tryd.prog 28 = false := by kernel_rfl
@[push_cast] theorem ik28 : ikd Tryd.prog 28 = none := by kernel_rfl
@[push_cast] theorem tk29 : tk Tryd.prog 29 = .scal := by kernel_rfl
@[push_cast] theorem zc29 : zc Tryd.prog 29 = some [.slice none 0 0] := by kernel_rfl
@[push_cast] theorem nk29 : nk Tryd.prog 29 = .slc := by kernel_rfl
@[push_cast] theorem cc29 : Go.Abs.concrete Tryd.prog 29 = true := by kernel_rfl
@[push_cast] theorem isl29 : isSlc Tryd.prog 29 = true := by kernel_rfl
@[push_cast] theorem ist29 : isStr Tryd.prog 29 = false := by kernel_rfl
@[push_cast] theorem ik29 : ikd Tryd.prog 29 = none := by kernel_rfl
@[push_cast] theorem es29 : elSz Tryd.prog 29 = some 10 := by kernel_rfl
@[push_cast] theorem eb29 : elB Tryd.prog 29 = 48 := by kernel_rfl
@[push_cast] theorem el29 : elT Tryd.prog 29 = some 31 := by kernel_rfl
@[push_cast] theorem by29 : isBys Tryd.prog 29 = false := by kernel_rfl
@[push_cast] theorem tk30 : tk Tryd.prog 30 = .scal := by kernel_rfl
@[push_cast] theorem zc30 : zc Tryd.prog 30 = some [.nilFunc] := by kernel_rfl
@[push_cast] theorem nk30 : nk Tryd.prog 30 = .fnc := by kernel_rfl
@[push_cast] theorem cc30 : Go.Abs.concrete Tryd.prog 30 = true := by kernel_rfl
@[push_cast] theorem isl30 : isSlc Tryd.prog 30 = false := by kernel_rfl
@[push_cast] theorem ist30 : isStr Tryd.prog 30 = false := by kernel_rfl
@[push_cast] theorem ik30 : ikd Tryd.prog 30 = none := by kernel_rfl
@[push_cast] theorem tk31 : tk Tryd.prog 31 = .aggr 10 := by kernel_rfl
@[push_cast] theorem zc31 : zc Tryd.prog 31 = some [.bool false, .int .u32 0, .int .u16 0, .int .u32 0, .int .u32 0, .bool false, .bool false, .bool false, .bool false, .slice none 0 0] := by kernel_rfl
@[push_cast] theorem fld31_0 : fld Tryd.prog 31 0 = some (0, .scal) := by kernel_rfl
@[push_cast] theorem fld31_1 : fld Tryd.prog 31 1 = some (1, .scal) := by kernel_rfl
@[push_cast] theorem fld31_2 : fld Tryd.prog 31 2 = some (2, .scal) := by kernel_rfl
@[push_cast] theorem fld31_3 : fld Tryd.prog 31 3 = some (3, .scal) := by kernel_rfl
@[push_cast] theorem fld31_4 : fld Tryd.prog 31 4 = some (4, .scal) := by kernel_rfl
@[push_cast] theorem fld31_5 : fld Tryd.prog 31 5 = some (5, .scal) := by kernel_rfl
@[push_cast] theorem fld31_6 : fld Tryd.prog 31 6 = some (6, .scal) := by kernel_rfl
@[push_cast] theorem fld31_7 : fld Tryd.prog 31 7 = some (7, .scal) := by kernel_rfl
@[push_cast] theorem fld31_8 : fld Tryd.prog 31 8 = some (8, .scal) := by kernel_rfl
@[push_cast] theorem fld31_9 : fld Tryd.prog 31 9 = some (9, .scal) := by kernel_rfl
@[push_cast] theorem pl31 : places Tryd.prog 31 = some [(0, 1), (1, 1), (2, 1), (3, 1), (4, 1), (5, 1), (6, 1), (7, 1), (8, 1), (9, 1)] := by kernel_rfl
@[push_cast] theorem nk31 : nk Tryd.prog 31 = .other := by kernel_rfl
@[push_cast] theorem cc31 : Go.Abs.concrete Tryd.prog 31 = true := by kernel_rfl
@[push_cast] theorem isl31 : isSlc Tryd.prog 31 = false := by kernel_rfl
@[push_cast] theorem ist31 : isStr Tryd.prog 31 = false := by kernel_rfl
@[push_cast] theorem ik31 : ikd Tryd.prog 31 = none := by kernel_rfl
@[push_cast] theorem tk32 : tk Tryd.prog 32 = .scal := by kernel_rfl
@[push_cast] theorem zc32 : zc Tryd.prog 32 = some [.slice none 0 0] := by kernel_rfl
@[push_cast] theorem nk32 : nk Tryd.prog 32 = .slc := by kernel_rfl
@[push_cast] theorem cc32 : Go.Abs.concrete Tryd.prog 32 = true := by kernel_rfl
@[push_cast] theorem isl32 : isSlc Tryd.prog 32 = true := by kernel_rfl
@[push_cast] theorem ist32 : isStr Tryd.prog 32 = false := by kernel_rfl
@[push_cast] theorem ik32 : ikd Tryd.prog 32 = none := by kernel_rfl
@[push_cast] theorem es32 : elSz Tryd.prog 32 = some 10 := by kernel_rfl
@[push_cast] theorem eb32 : elB Tryd.prog 32 = 48 := by kernel_rfl
@[push_cast] theorem el32 : elT Tryd.prog 32 = some 26 := by kernel_rfl
@[push_cast] theorem by32 : isBys Tryd.prog 32 = false := by kernel_rfl
@[push_cast] theorem tk33 : tk Tryd.prog 33 = .scal := by kernel_rfl
@[push_cast] theorem zc33 : zc Tryd.prog 33 = some [.nilFunc] := by kernel_rfl
@[push_cast] theorem nk33 : nk Tryd.prog 33 = .fnc := by kernel_rfl
@[push_cast] theorem cc33 : Go.Abs.concrete Tryd.prog 33 = true := by kernel_rfl
@[push_cast] theorem isl33 : isSlc Tryd.prog 33 = false := by kernel_rfl
@[push_cast] theorem ist33 : isStr Tryd.prog 33 = false := by kernel_rfl
@[push_cast] theorem ik33 : ikd Tryd.prog 33 = none := by kernel_rfl
@[push_cast] theorem tk34 : tk Tryd.prog 34 = .scal := by kernel_rfl
@[push_cast] theorem zc34 : zc Tryd.prog 34 = some [.nilFunc] := by kernel_rfl
@[push_cast] theorem nk34 : nk Tryd.prog 34 = .fnc := by kernel_rfl
@[push_cast] theorem cc34 : Go.Abs.concrete Tryd.prog 34 = true := by kernel_rfl
@[push_cast] theorem isl34 : isSlc Tryd.prog 34 = false := by kernel_rfl
@[push_cast] theorem ist34 : isStr Tryd.prog 34 = false := by kernel_rfl
@[push_cast] theorem ik34 : ikd Tryd.prog 34 = none := by kernel_rfl
@[push_cast] theorem tk36 : tk Tryd.prog 36 = .scal := by kernel_rfl
@[push_cast] theorem zc36 : zc Tryd.prog 36 = some [.nilFunc] := by kernel_rfl
@[push_cast] theorem nk36 : nk Tryd.prog 36 = .fnc := by kernel_rfl
@[push_cast] theorem cc36 : Go.Abs.concrete Tryd.prog 36 = true := by kernel_rfl
@[push_cast] theorem isl36 : isSlc Tryd.prog 36 = false := by kernel_rfl
@[push_cast] theorem ist36 : isStr Tryd.prog 36 = false := by kernel_rfl
@[push_cast] theorem ik36 : ikd Tryd.prog 36 = none := by kernel_rfl
@[push_cast] theorem tk37 : tk Tryd.prog 37 = .scal := by kernel_rfl
@[push_cast] theorem zc37 : zc Tryd.prog 37 = some [.nilFunc] := by kernel_rfl
@[push_cast] theorem nk37 : nk Tryd.prog 37 = .fnc := by kernel_rfl
@[push_cast] theorem cc37 : Go.Abs.concrete Tryd.prog 37 = true := by kernel_rfl
@[push_cast] theorem isl37 : isSlc Tryd.prog 37 = false := by kernel_rfl
@[push_cast] theorem ist37 : isStr Tryd.prog 37 = false := by kernel_rfl
@[push_cast] theorem ik37 : ikd Tryd.prog 37 = none := by kernel_rfl
@[push_cast] theorem tk39 : tk Tryd.prog 39 = .scal := by kernel_rfl
@[push_cast] theorem zc39 : zc Tryd.prog 39 = some [.nilFunc] := by kernel_rfl
@[push_cast] theorem nk39 : nk Tryd.prog 39 = .fnc := by kernel_rfl
@[push_cast] theorem cc39 : Go.Abs.concrete Tryd.prog 39 = true := by kernel_rfl
@[push_cast] theorem isl39 : isSlc Tryd.prog 39 = false := by kernel_rfl
@[push_cast] theorem ist39 : isStr Tryd.prog 39 = false := by kernel_rfl
@[push_cast] theorem ik39 : ikd Tryd.prog 39 = none := by kernel_rfl
@[push_cast] theorem tk40 : tk Tryd.prog 40 = .scal := by kernel_rfl
@[push_cast] theorem zc40 : zc Tryd.prog 40 = some [.nilFunc] := by kernel_rfl
@[push_cast] theorem nk40 : nk Tryd.prog 40 = .fnc := by kernel_rfl
@[push_cast] theorem cc40 : Go.Abs.concrete Tryd.prog 40 = true := by kernel_rfl
@[push_cast] theorem isl40 : isSlc Tryd.prog 40 = false := by kernel_rfl
@[push_cast] theorem ist40 : isStr Tryd.prog 40 = false := by kernel_rfl
@[push_cast] theorem ik40 : ikd Tryd.prog 40 = none := by kernel_rfl
@[push_cast] theorem tk41 : tk Tryd.prog 41 = .scal := by kernel_rfl
@[push_cast] theorem zc41 : zc Tryd.prog 41 = some [.nilFunc] := by kernel_rfl
@[push_cast] theorem nk41 : nk Tryd.prog 41 = .fnc := by kernel_rfl
@[push_cast] theorem cc41 : Go.Abs.concrete Tryd.prog 41 = true := by kernel_rfl
@[push_cast] theorem isl41 : isSlc Tryd.prog 41 = false := by kernel_rfl
@[push_cast] theorem ist41 : isStr Tryd.prog 41 = false := by kernel_rfl
@[push_cast] theorem ik41 : ikd Tryd.prog 41 = none := by kernel_rfl
@[push_cast] theorem tk42 : tk Tryd.prog 42 = .scal := by kernel_rfl
@[push_cast] theorem zc42 : zc Tryd.prog 42 = some [.slice none 0 0] := by kernel_rfl
@[push_cast] theorem nk42 : nk Tryd.prog 42 = .slc := by kernel_rfl
@[push_cast] theorem cc42 : Go.Abs.concrete Tryd.prog 42 = true := by kernel_rfl
@[push_cast] theorem isl42 : isSlc Tryd.prog 42 = true := by kernel_rfl
@[push_cast] theorem ist42 : isStr Tryd.prog 42 = false := by kernel_rfl
@[push_cast] theorem ik42 : ikd Tryd.prog 42 = none := by kernel_rfl
@[push_cast] theorem es42 : elSz Tryd.prog 42 = some 3 := by kernel_rfl
@[push_cast] theorem eb42 : elB Tryd.prog 42 = 56 := by kernel_rfl
@[push_cast] theorem el42 : elT Tryd.prog 42 = some 91 := by kernel_rfl
@[push_cast] theorem by42 : isBys Tryd.prog 42 = false := by kernel_rfl
@[push_cast] theorem tk43 : tk Tryd.prog 43 = .aggr 4 := by kernel_rfl
@[push_cast] theorem zc43 : zc Tryd.prog 43 = some [.int .u8 0, .int .u8 0, .slice none 0 0, .slice none 0 0] := by kernel_rfl
@[push_cast] theorem fld43_0 : fld Tryd.prog 43 0 = some (0, .scal) := by kernel_rfl
@[push_cast] theorem fld43_1 : fld Tryd.prog 43 1 = some (1, .scal) := by kernel_rfl
@[push_cast] theorem fld43_2 : fld Tryd.prog 43 2 = some (2, .scal) := by kernel_rfl
@[push_cast] theorem fld43_3 : fld Tryd.prog 43 3 = some (3, .scal) := by kernel_rfl
@[push_cast] theorem pl43 : places Tryd.prog 43 = some [(0, 1), (1, 1), (2, 1), (3, 1)] := by kernel_rfl
@[push_cast] theorem nk43 : nk Tryd.prog 43 = .other := by kernel_rfl
@[push_cast] theorem cc43 : Go.Abs.concrete Tryd.prog 43 = true := by kernel_rfl
@[push_cast] theorem isl43 : isSlc Tryd.prog 43 = false := by kernel_rfl
@[push_cast] theorem ist43 : isStr Tryd.prog 43 = false := by kernel_rfl
@[push_cast] theorem ik43 : ikd Tryd.prog 43 = none := by kernel_rfl
@[push_cast] theorem tk44 : tk Tryd.prog 44 = .aggr 4 := by kernel_rfl
@[push_cast] theorem zc44 : zc Tryd.prog 44 = some [.int .u8 0, .int .u8 0, .slice none 0 0, .slice none 0 0] := by kernel_rfl
@[push_cast] theorem fld44_0 : fld Tryd.prog 44 0 = some (0, .scal) := by kernel_rfl
@[push_cast] theorem fld44_1 : fld Tryd.prog 44 1 = some (1, .scal) := by kernel_rfl
@[push_cast] theorem fld44_2 : fld Tryd.prog 44 2 = some (2, .scal) := by kernel_rfl
@[push_cast] theorem fld44_3 : fld Tryd.prog 44 3 = some (3, .scal) := by kernel_rfl
@[push_cast] theorem pl44 : places Tryd.prog 44 = some [(0, 1), (1, 1), (2, 1), (3, 1)] := by kernel_rfl
@[push_cast] theorem nk44 : nk Tryd.prog 44 = .other := by kernel_rfl
@[push_cast] theorem cc44 : Go.Abs.concrete Tryd.prog 44 = true := by kernel_rfl
@[push_cast] theorem isl44 : isSlc Tryd.prog 44 = false := by kernel_rfl
@[push_cast] theorem ist44 : isStr Tryd.prog 44 = false := by kernel_rfl
@[push_cast] theorem ik44 : ikd Tryd.prog 44 = none := by kernel_rfl
@[push_cast] theorem tk46 : tk Tryd.prog 46 = .scal := by kernel_rfl
@[push_cast] theorem zc46 : zc Tryd.prog 46 = some [.nilFunc] := by kernel_rfl
@[push_cast] theorem nk46 : nk Tryd.prog 46 = .fnc := by kernel_rfl
@[push_cast] theorem cc46 : Go.Abs.concrete Tryd.prog 46 = true := by kernel_rfl
@[push_cast] theorem isl46 : isSlc Tryd.prog 46 = false := by kernel_rfl
@[push_cast] theorem ist46 : isStr Tryd.prog 46 = false := by kernel_rfl
@[push_cast] theorem ik46 : ikd Tryd.prog 46 = none := by kernel_rfl
@[push_cast] theorem tk47 : tk Tryd.prog 47 = .scal := by kernel_rfl
@[push_cast] theorem zc47 : zc Tryd.prog 47 = some [.nilFunc] := by kernel_rfl
@[push_cast] theorem nk47 : nk Tryd.prog 47 = .fnc := by kernel_rfl
@[push_cast] theorem cc47 : Go.Abs.concrete Tryd.prog 47 = true := by kernel_rfl
@[push_cast] theorem isl47 : isSlc Tryd.prog 47 = false := by kernel_rfl
@[push_cast] theorem ist47 : isStr Tryd.prog 47 = false := by kernel_rfl
@[push_cast] theorem ik47 : ikd Tryd.prog 47 = none := by kernel_rfl
@[push_cast] theorem tk48 : tk Tryd.prog 48 = .scal := by kernel_rfl
@[push_cast] theorem zc48 : zc Tryd.prog 48 = some [.nilFunc] := by kernel_rfl
@[push_cast] theorem nk48 : nk Tryd.prog 48 = .fnc := by kernel_rfl
@[push_cast] theorem cc48 : Go.Abs.concrete Tryd.prog 48 = true := by kernel_rfl
@[push_cast] theorem isl48 : isSlc Tryd.prog 48 = false := by kernel_rfl
@[push_cast] theorem ist48 : isStr Tryd.prog 48 = false := by kernel_rfl
@[push_cast] theorem ik48 : ikd Tryd.prog 48 = none := by kernel_rfl
@[push_cast] theorem tk49 : tk Tryd.prog 49 = .scal := by kernel_rfl
@[push_cast] theorem zc49 : zc Tryd.prog 49 = some [.nilFunc] := by kernel_rfl
@[push_cast] theorem nk49 : nk Tryd.prog 49 = .fnc := by kernel_rfl
@[push_cast] theorem cc49 : Go.Abs.concrete Tryd.prog 49 = true := by kernel_rfl
@[push_cast] theorem isl49 : isSlc Tryd.prog 49 = false := by kernel_rfl
@[push_cast] theorem ist49 : isStr Tryd.prog 49 = false := by kernel_rfl
@[push_cast] theorem ik49 : ikd Tryd.prog 49 = none := by kernel_rfl
@[push_cast] theorem tk50 : tk Tryd.prog 50 = .scal := by kernel_rfl
@[push_cast] theorem zc50 : zc Tryd.prog 50 = some [.nilFunc] := by kernel_rfl
@[push_cast] theorem nk50 : nk Tryd.prog 50 = .fnc := by kernel_rfl
@[push_cast] theorem cc50 : Go.Abs.concrete Tryd.prog 50 = true := by kernel_rfl
@[push_cast] theorem isl50 : isSlc Tryd.prog 50 = false := by kernel_rfl
@[push_cast] theorem ist50 : isStr Tryd.prog 50 = false := by kernel_rfl
@[push_cast] theorem ik50 : ikd Tryd.prog 50 = none := by kernel_rfl
@[push_cast] theorem tk51 : tk Tryd.prog 51 = .scal := by kernel_rfl
@[push_cast] theorem zc51 : zc Tryd.prog 51 = some [.nilFunc] := by kernel_rfl
@[push_cast] theorem nk51 : nk Tryd.prog 51 = .fnc := by kernel_rfl
@[push_cast] theorem cc51 : Go.Abs.concrete Tryd.prog 51 = true := by kernel_rfl
@[push_cast] theorem isl51 : isSlc Tryd.prog 51 = false := by kernel_rfl
@[push_cast] theorem ist51 : isStr Tryd.prog 51 = false := by kernel_rfl
@[push_cast] theorem ik51 : ikd Tryd.prog 51 = none := by kernel_rfl
@[push_cast] theorem tk52 : tk Tryd.prog 52 = .scal := by kernel_rfl
@[push_cast] theorem zc52 : zc Tryd.prog 52 = some [.nilFunc] := by kernel_rfl
@[push_cast] theorem nk52 : nk Tryd.prog 52 = .fnc := by kernel_rfl
@[push_cast] theorem cc52 : Go.Abs.concrete Tryd.prog 52 = true := by kernel_rfl
@[push_cast] theorem isl52 : isSlc Tryd.prog 52 = false := by kernel_rfl
@[push_cast] theorem ist52 : isStr Tryd.prog 52 = false := by kernel_rfl
@[push_cast] theorem ik52 : ikd Tryd.prog 52 = none := by kernel_rfl
@[push_cast] theorem tk53 : tk Tryd.prog 53 = .scal := by kernel_rfl
@[push_cast] theorem zc53 : zc Tryd.prog 53 = some [.nilFunc] := by kernel_rfl
@[push_cast] theorem nk53 : nk Tryd.prog 53 = .fnc := by kernel_rfl
@[push_cast] theorem cc53 : Go.Abs.concrete Tryd.prog 53 = true := by kernel_rfl
@[push_cast] theorem isl53 : isSlc Tryd.prog 53 = false := by kernel_rfl
@[push_cast] theorem ist53 : isStr Tryd.prog 53 = false := by kernel_rfl
@[push_cast] theorem ik53 : ikd Tryd.prog 53 = none := by kernel_rfl
@[push_cast] theorem tk54 : tk Tryd.prog 54 = .scal := by kernel_rfl
@[push_cast] theorem zc54 : zc Tryd.prog 54 = some [.nilFunc] := by kernel_rfl
@[push_cast] theorem nk54 : nk Tryd.prog 54 = .fnc := by kernel_rfl
@[push_cast] theorem cc54 : Go.Abs.concrete Tryd.prog 54 = true := by kernel_rfl
@[push_cast] theorem isl54 : isSlc Tryd.prog 54 = false := by kernel_rfl
@[push_cast] theorem ist54 : isStr Tryd.prog 54 = false := by kernel_rfl
@[push_cast] theorem ik54 : ikd Tryd.prog 54 = none := by kernel_rfl
@[push_cast] theorem tk55 : tk Tryd.prog 55 = .scal := by kernel_rfl
@[push_cast] theorem zc55 : zc Tryd.prog 55 = some [.nilFunc] := by kernel_rfl
@[push_cast] theorem nk55 : nk Tryd.prog 55 = .fnc := by kernel_rfl
@[push_cast] theorem cc55 : Go.Abs.concrete Tryd.prog 55 = true := by kernel_rfl
@[push_cast] theorem isl55 : isSlc Tryd.prog 55 = false := by kernel_rfl
@[push_cast] theorem ist55 : isStr Tryd.prog 55 = false := by kernel_rfl
@[push_cast] theorem ik55 : ikd Tryd.prog 55 = none := by kernel_rfl
@[push_cast] theorem tk56 : tk Tryd.prog 56 = .scal := by kernel_rfl
@[push_cast] theorem zc56 : zc Tryd.prog 56 = some [.nilFunc] := by kernel_rfl
@[push_cast] theorem nk56 : nk Tryd.prog 56 = .fnc := by kernel_rfl
@[push_cast] theorem cc56 : Go.Abs.concrete Tryd.prog 56 = true := by kernel_rfl
@[push_cast] theorem isl56 : isSlc Tryd.prog 56 = false := by kernel_rfl
@[push_cast] theorem ist56 : isStr Tryd.prog 56 = false := by kernel_rfl
@[push_cast] theorem ik56 : ikd Tryd.prog 56 = none := by kernel_rfl
@[push_cast] theorem tk57 : tk Tryd.prog 57 = .scal := by kernel_rfl
@[push_cast] theorem zc57 : zc Tryd.prog 57 = some [.nilFunc] := by kernel_rfl
@[push_cast] theorem nk57 : nk Tryd.prog 57 = .fnc := by kernel_rfl
@[push_cast] theorem cc57 : Go.Abs.concrete Tryd.prog 57 = true := by kernel_rfl
@[push_cast] theorem isl57 : isSlc Tryd.prog 57 = false := by kernel_rfl
@[push_cast] theorem ist57 : isStr Tryd.prog 57 = false := by kernel_rfl
@[push_cast] theorem ik57 : ikd Tryd.prog 57 = none := by kernel_rfl
@[push_cast] theorem tk58 : tk Tryd.prog 58 = .scal := by kernel_rfl
@[push_cast] theorem zc58 : zc Tryd.prog 58 = some [.nilFunc] := by kernel_rfl
@[push_cast] theorem nk58 : nk Tryd.prog 58 = .fnc := by kernel_rfl
@[push_cast] theorem cc58 : Go.Abs.concrete Tryd.prog 58 = true := by kernel_rfl
@[push_cast] theorem isl58 : isSlc Tryd.prog 58 = false := by kernel_rfl
@[push_cast] theorem ist58 : isStr Tryd.prog 58 = false := by kernel_rfl
@[push_cast] theorem ik58 : ikd Tryd.prog 58 = none := by kernel_rfl
@[push_cast] theorem tk59 : tk Tryd.prog 59 = .scal := by kernel_rfl
@[push_cast] theorem zc59 : zc Tryd.prog 59 = some [.nilFunc] := by kernel_rfl
@[push_cast] theorem nk59 : nk Tryd.prog 59 = .fnc := by kernel_rfl
@[push_cast] theorem cc59 : Go.Abs.concrete Tryd.prog 59 = true := by kernel_rfl
@[push_cast] theorem isl59 : isSlc Tryd.prog 59 = false := by kernel_rfl
@[push_cast] theorem ist59 : isStr Tryd.prog 59 = false := by kernel_rfl
@[push_cast] theorem ik59 : ikd Tryd.prog 59 = none := by kernel_rfl
@[push_cast] theorem tk60 : tk Tryd.prog 60 = .scal := by kernel_rfl
@[push_cast] theorem zc60 : zc Tryd.prog 60 = some [.nilIface] := by kernel_rfl
@[push_cast] theorem nk60 : nk Tryd.prog 60 = .ifc := by kernel_rfl
@[push_cast] theorem isl60 : isSlc Tryd.prog 60 = false := by kernel_rfl
@[push_cast] theorem ist60 : isStr Tryd.prog 60 = false := by kernel_rfl
@[push_cast] theorem ik60 : ikd Tryd.prog 60 = none := by kernel_rfl
@[push_cast] theorem tk61 : tk Tryd.prog 61 = .scal := by kernel_rfl
@[push_cast] theorem zc61 : zc Tryd.prog 61 = some [.nilIface] := by kernel_rfl
@[push_cast] theorem nk61 : nk Tryd.prog 61 = .ifc := by kernel_rfl
@[push_cast] theorem isl61 : isSlc Tryd.prog 61 = false := by kernel_rfl
@[push_cast] theorem ist61 : isStr Tryd.prog 61 = false := by kernel_rfl
@[push_cast] theorem ik61 : ikd Tryd.prog 61 = none := by kernel_rfl
@[push_cast] theorem tk62 : tk Tryd.prog 62 = .scal := by kernel_rfl
@[push_cast] theorem zc62 : zc Tryd.prog 62 = some [.nilFunc] := by kernel_rfl
@[push_cast] theorem nk62 : nk Tryd.prog 62 = .fnc := by kernel_rfl
@[push_cast] theorem cc62 : Go.Abs.concrete Tryd.prog 62 = true := by kernel_rfl
@[push_cast] theorem isl62 : isSlc Tryd.prog 62 = false := by kernel_rfl
@[push_cast] theorem ist62 : isStr Tryd.prog 62 = false := by kernel_rfl
@[push_cast] theorem ik62 : ikd Tryd.prog 62 = none := by kernel_rfl
@[push_cast] theorem tk63 : tk Tryd.prog 63 = .scal := by kernel_rfl
@[push_cast] theorem zc63 : zc Tryd.prog 63 = some [.nilFunc] := by kernel_rfl
@[push_cast] theorem nk63 : nk Tryd.prog 63 = .fnc := by kernel_rfl
@[push_cast] theorem cc63 : Go.Abs.concrete Tryd.prog 63 = true := by kernel_rfl
@[push_cast] theorem isl63 : isSlc Tryd.prog 63 = false := by kernel_rfl
@[push_cast] theorem ist63 : isStr Tryd.prog 63 = false := by kernel_rfl
@[push_cast] theorem ik63 : ikd Tryd.prog 63 = none := by kernel_rfl
@[push_cast] theorem tk64 : tk Tryd.prog 64 = .scal := by kernel_rfl
@[push_cast] theorem zc64 : zc Tryd.prog 64 = some [.nilFunc] := by kernel_rfl
@[push_cast] theorem nk64 : nk Tryd.prog 64 = .fnc := by kernel_rfl
@[push_cast] theorem cc64 : Go.Abs.concrete Tryd.prog 64 = true := by kernel_rfl
@[push_cast] theorem isl64 : isSlc Tryd.prog 64 = false := by kernel_rfl
@[push_cast] theorem ist64 : isStr Tryd.prog 64 = false := by kernel_rfl
@[push_cast] theorem ik64 : ikd Tryd.prog 64 = none := by kernel_rfl
@[push_cast] theorem tk65 : tk Tryd.prog 65 = .scal := by kernel_rfl
@[push_cast] theorem zc65 : zc Tryd.prog 65 = some [.pointer none] := by kernel_rfl
@[push_cast] theorem nk65 : nk Tryd.prog 65 = .ptr := by kernel_rfl
@[push_cast] theorem cc65 : Go.Abs.concrete Tryd.prog 65 = true := by kernel_rfl
@[push_cast] theorem isl65 : isSlc Tryd.prog 65 = false := by kernel_rfl
@[push_cast] theorem ist65 : isStr Tryd.prog 65 = false := by kernel_rfl
@[push_cast] theorem ik65 : ikd Tryd.prog 65 = none := by kernel_rfl
@[push_cast] theorem tk66 : tk Tryd.prog 66 = .scal := by kernel_rfl
@[push_cast] theorem zc66 : zc Tryd.prog 66 = some [.nilFunc] := by kernel_rfl
@[push_cast] theorem nk66 : nk Tryd.prog 66 = .fnc := by kernel_rfl
@[push_cast] theorem cc66 : Go.Abs.concrete Tryd.prog 66 = true := by kernel_rfl
@[push_cast] theorem isl66 : isSlc Tryd.prog 66 = false := by kernel_rfl
@[push_cast] theorem ist66 : isStr Tryd.prog 66 = false := by kernel_rfl
@[push_cast] theorem ik66 : ikd Tryd.prog 66 = none := by kernel_rfl
@[push_cast] theorem tk68 : tk Tryd.prog 68 = .scal := by kernel_rfl
@[push_cast] theorem zc68 : zc Tryd.prog 68 = some [.nilFunc] := by kernel_rfl
@[push_cast] theorem nk68 : nk Tryd.prog 68 = .fnc := by kernel_rfl
@[push_cast] theorem cc68 : Go.Abs.concrete Tryd.prog 68 = true := by kernel_rfl
@[push_cast] theorem isl68 : isSlc Tryd.prog 68 = false := by kernel_rfl
@[push_cast] theorem ist68 : isStr Tryd.prog 68 = false := by kernel_rfl
@[push_cast] theorem ik68 : ikd Tryd.prog 68 = none := by kernel_rfl
@[push_cast] theorem tk70 : tk Tryd.prog 70 = .scal := by kernel_rfl
@[push_cast] theorem zc70 : zc Tryd.prog 70 = some [.nilFunc] := by kernel_rfl
@[push_cast] theorem nk70 : nk Tryd.prog 70 = .fnc := by kernel_rfl
@[push_cast] theorem cc70 : Go.Abs.concrete Tryd.prog 70 = true := by kernel_rfl
@[push_cast] theorem isl70 : isSlc Tryd.prog 70 = false := by kernel_rfl
@[push_cast] theorem ist70 : isStr Tryd.prog 70 = false := by kernel_rfl
@[push_cast] theorem ik70 : ikd Tryd.prog 70 = none := by kernel_rfl
@[push_cast] theorem tk71 : tk Tryd.prog 71 = .scal := by kernel_rfl
@[push_cast] theorem zc71 : zc Tryd.prog 71 = some [.nilFunc] := by kernel_rfl
@[push_cast] theorem nk71 : nk Tryd.prog 71 = .fnc := by kernel_rfl
@[push_cast] theorem cc71 : Go.Abs.concrete Tryd.prog 71 = true := by kernel_rfl
@[push_cast] theorem isl71 : isSlc Tryd.prog 71 = false := by kernel_rfl
@[push_cast] theorem ist71 : isStr Tryd.prog 71 = false := by kernel_rfl
@[push_cast] theorem ik71 : ikd Tryd.prog 71 = none := by kernel_rfl
@[push_cast] theorem tk72 : tk Tryd.prog 72 = .aggr 9 := by kernel_rfl
@[push_cast] theorem zc72 : zc Tryd.prog 72 = some [.int .u32 0, .int .u32 0, .int .u32 0, .int .u32 0, .int .u32 0, .int .u32 0, .int .u32 0, .int .u32 0, .int .u32 0] := by kernel_rfl
@[push_cast] theorem pl72 : places Tryd.prog 72 = some [(0, 1), (1, 1), (2, 1), (3, 1), (4, 1), (5, 1), (6, 1), (7, 1), (8, 1)] := by kernel_rfl
@[push_cast] theorem at72 : arrT Tryd.prog 72 = some (9, 22, 1) := by kernel_rfl
@[push_cast] theorem nk72 : nk Tryd.prog 72 = .other := by kernel_rfl
@[push_cast] theorem cc72 : Go.Abs.concrete Tryd.prog 72 = true := by kernel_rfl
@[push_cast] theorem isl72 : isSlc Tryd.prog 72 = false := by kernel_rfl
@[push_cast] theorem ist72 : isStr Tryd.prog 72 = false := by kernel_rfl
@[push_cast] theorem ik72 : ikd Tryd.prog 72 = none := by kernel_rfl
@[push_cast] theorem tk73 : tk Tryd.prog 73 = .aggr 5 := by kernel_rfl
@[push_cast] theorem zc73 : zc Tryd.prog 73 = some [.bool false, .bool false, .bool false, .bool false, .bool false] := by kernel_rfl
@[push_cast] theorem pl73 : places Tryd.prog 73 = some [(0, 1), (1, 1), (2, 1), (3, 1), (4, 1)] := by kernel_rfl
@[push_cast] theorem at73 : arrT Tryd.prog 73 = some (5, 4, 1) := by kernel_rfl
@[push_cast] theorem nk73 : nk Tryd.prog 73 = .other := by kernel_rfl
@[push_cast] theorem cc73 : Go.Abs.concrete Tryd.prog 73 = true := by kernel_rfl
@[push_cast] theorem isl73 : isSlc Tryd.prog 73 = false := by kernel_rfl
@[push_cast] theorem ist73 : isStr Tryd.prog 73 = false := by kernel_rfl
@[push_cast] theorem ik73 : ikd Tryd.prog 73 = none := by kernel_rfl
@[push_cast] theorem tk74 : tk Tryd.prog 74 = .scal := by kernel_rfl
@[push_cast] theorem zc74 : zc Tryd.prog 74 = some [.nilFunc] := by kernel_rfl
@[push_cast] theorem nk74 : nk Tryd.prog 74 = .fnc := by kernel_rfl
@[push_cast] theorem cc74 : Go.Abs.concrete Tryd.prog 74 = true := by kernel_rfl
@[push_cast] theorem isl74 : isSlc Tryd.prog 74 = false := by kernel_rfl
@[push_cast] theorem ist74 : isStr Tryd.prog 74 = false := by kernel_rfl
@[push_cast] theorem ik74 : ikd Tryd.prog 74 = none := by kernel_rfl
@[push_cast] theorem tk75 : tk Tryd.prog 75 = .scal := by kernel_rfl
@[push_cast] theorem zc75 : zc Tryd.prog 75 = some [.nilFunc] := by kernel_rfl
@[push_cast] theorem nk75 : nk Tryd.prog 75 = .fnc := by kernel_rfl
@[push_cast] theorem cc75 : Go.Abs.concrete Tryd.prog 75 = true := by kernel_rfl
@[push_cast] theorem isl75 : isSlc Tryd.prog 75 = false := by kernel_rfl
@[push_cast] theorem ist75 : isStr Tryd.prog 75 = false := by kernel_rfl
@[push_cast] theorem ik75 : ikd Tryd.prog 75 = none := by kernel_rfl
@[push_cast] theorem tk76 : tk Tryd.prog 76 = .scal := by kernel_rfl
@[push_cast] theorem zc76 : zc Tryd.prog 76 = some [.slice none 0 0] := by kernel_rfl
@[push_cast] theorem nk76 : nk Tryd.prog 76 = .slc := by kernel_rfl
@[push_cast] theorem cc76 : Go.Abs.concrete Tryd.prog 76 = true := by kernel_rfl
@[push_cast] theorem isl76 : isSlc Tryd.prog 76 = true := by kernel_rfl
@[push_cast] theorem ist76 : isStr Tryd.prog 76 = false := by kernel_rfl
@[push_cast] theorem ik76 : ikd Tryd.prog 76 = none := by kernel_rfl
@[push_cast] theorem es76 : elSz Tryd.prog 76 = some 1 := by kernel_rfl
@[push_cast] theorem eb76 : elB Tryd.prog 76 = 4 := by kernel_rfl
@[push_cast] theorem el76 : elT Tryd.prog 76 = some 22 := by kernel_rfl
@[push_cast] theorem by76 : isBys Tryd.prog 76 = false := by kernel_rfl
@[push_cast] theorem tk77 : tk Tryd.prog 77 = .scal := by kernel_rfl
@[push_cast] theorem zc77 : zc Tryd.prog 77 = some [.nilFunc] := by kernel_rfl
@[push_cast] theorem nk77 : nk Tryd.prog 77 = .fnc := by kernel_rfl
@[push_cast] theorem cc77 : Go.Abs.concrete Tryd.prog 77 = true := by kernel_rfl
@[push_cast] theorem isl77 : isSlc Tryd.prog 77 = false := by kernel_rfl
@[push_cast] theorem ist77 : isStr Tryd.prog 77 = false := by kernel_rfl
@[push_cast] theorem ik77 : ikd Tryd.prog 77 = none := by kernel_rfl
@[push_cast] theorem tk78 : tk Tryd.prog 78 = .scal := by kernel_rfl
@[push_cast] theorem zc78 : zc Tryd.prog 78 = some [.slice none 0 0] := by kernel_rfl
@[push_cast] theorem nk78 : nk Tryd.prog 78 = .slc := by kernel_rfl
@[push_cast] theorem cc78 : Go.Abs.concrete Tryd.prog 78 = true := by kernel_rfl
@[push_cast] theorem isl78 : isSlc Tryd.prog 78 = true := by kernel_rfl
@[push_cast] theorem ist78 : isStr Tryd.prog 78 = false := by kernel_rfl
@[push_cast] theorem ik78 : ikd Tryd.prog 78 = none := by kernel_rfl
@[push_cast] theorem es78 : elSz Tryd.prog 78 = some 1 := by kernel_rfl
@[push_cast] theorem eb78 : elB Tryd.prog 78 = 24 := by kernel_rfl
@[push_cast] theorem el78 : elT Tryd.prog 78 = some 24 := by kernel_rfl
@[push_cast] theorem by78 : isBys Tryd.prog 78 = false := by kernel_rfl
@[push_cast] theorem tk79 : tk Tryd.prog 79 = .aggr 7 := by kernel_rfl
@[push_cast] theorem zc79 : zc Tryd.prog 79 = some [.int .u8 0, .string ⟨#[]⟩, .int .u8 0, .int .i64 0, .int .i64 0, .int .i64 0, .int .i64 0] := by kernel_rfl
@[push_cast] theorem fld79_0 : fld Tryd.prog 79 0 = some (0, .scal) := by kernel_rfl
@[push_cast] theorem fld79_1 : fld Tryd.prog 79 1 = some (1, .scal) := by kernel_rfl
@[push_cast] theorem fld79_2 : fld Tryd.prog 79 2 = some (2, .scal) := by kernel_rfl
@[push_cast] theorem fld79_3 : fld Tryd.prog 79 3 = some (3, .scal) := by kernel_rfl
@[push_cast] theorem fld79_4 : fld Tryd.prog 79 4 = some (4, .scal) := by kernel_rfl
@[push_cast] theorem fld79_5 : fld Tryd.prog 79 5 = some (5, .scal) := by kernel_rfl
@[push_cast] theorem fld79_6 : fld Tryd.prog 79 6 = some (6, .scal) := by kernel_rfl
@[push_cast] theorem pl79 : places Tryd.prog 79 = some [(0, 1), (1, 1), (2, 1), (3, 1), (4, 1), (5, 1), (6, 1)] := by kernel_rfl
@[push_cast] theorem nk79 : nk Tryd.prog 79 = .other := by kernel_rfl
@[push_cast] theorem cc79 : Go.Abs.concrete Tryd.prog 79 = true := by kernel_rfl
@[push_cast] theorem isl79 : isSlc Tryd.prog 79 = false := by kernel_rfl
@[push_cast] theorem ist79 : isStr Tryd.prog 79 = false := by kernel_rfl
@[push_cast] theorem ik79 : ikd Tryd.prog 79 = none := by kernel_rfl
@[push_cast] theorem tk80 : tk Tryd.prog 80 = .aggr 7 := by kernel_rfl
@[push_cast] theorem zc80 : zc Tryd.prog 80 = some [.int .u8 0, .string ⟨#[]⟩, .int .u8 0, .int .i64 0, .int .i64 0, .int .i64 0, .int .i64 0] := by kernel_rfl
@[push_cast] theorem fld80_0 : fld Tryd.prog 80 0 = some (0, .scal) := by kernel_rfl
@[push_cast] theorem fld80_1 : fld Tryd.prog 80 1 = some (1, .scal) := by kernel_rfl
@[push_cast] theorem fld80_2 : fld Tryd.prog 80 2 = some (2, .scal) := by kernel_rfl
@[push_cast] theorem fld80_3 : fld Tryd.prog 80 3 = some (3, .scal) := by kernel_rfl
@[push_cast] theorem fld80_4 : fld Tryd.prog 80 4 = some (4, .scal) := by kernel_rfl
@[push_cast] theorem fld80_5 : fld Tryd.prog 80 5 = some (5, .scal) := by kernel_rfl
@[push_cast] theorem fld80_6 : fld Tryd.prog 80 6 = some (6, .scal) := by kernel_rfl
@[push_cast] theorem pl80 : places Tryd.prog 80 = some [(0, 1), (1, 1), (2, 1), (3, 1), (4, 1), (5, 1), (6, 1)] := by kernel_rfl
@[push_cast] theorem nk80 : nk Tryd.prog 80 = .other := by kernel_rfl
@[push_cast] theorem cc80 : Go.Abs.concrete Tryd.prog 80 = true := by kernel_rfl
@[push_cast] theorem isl80 : isSlc Tryd.prog 80 = false := by kernel_rfl
@[push_cast] theorem ist80 : isStr Tryd.prog 80 = false := by kernel_rfl
@[push_cast] theorem ik80 : ikd Tryd.prog 80 = none := by kernel_rfl
@[push_cast] theorem tk82 : tk Tryd.prog 82 = .scal := by kernel_rfl
@[push_cast] theorem zc82 : zc Tryd.prog 82 = some [.nilFunc] := by kernel_rfl
@[push_cast] theorem nk82 : nk Tryd.prog 82 = .fnc := by kernel_rfl
@[push_cast] theorem cc82 : Go.Abs.concrete Tryd.prog 82 = true := by kernel_rfl
@[push_cast] theorem isl82 : isSlc Tryd.prog 82 = false := by kernel_rfl
@[push_cast] theorem ist82 : isStr Tryd.prog 82 = false := by kernel_rfl
@[push_cast] theorem ik82 : ikd Tryd.prog 82 = none := by kernel_rfl
@[push_cast] theorem tk84 : tk Tryd.prog 84 = .scal := by kernel_rfl
@[push_cast] theorem zc84 : zc Tryd.prog 84 = some [.nilFunc] := by kernel_rfl
@[push_cast] theorem nk84 : nk Tryd.prog 84 = .fnc := by kernel_rfl
@[push_cast] theorem cc84 : Go.Abs.concrete Tryd.prog 84 = true := by kernel_rfl
@[push_cast] theorem isl84 : isSlc Tryd.prog 84 = false := by kernel_rfl
@[push_cast] theorem ist84 : isStr Tryd.prog 84 = false := by kernel_rfl
@[push_cast] theorem ik84 : ikd Tryd.prog 84 = none := by kernel_rfl
@[push_cast] theorem tk85 : tk Tryd.prog 85 = .scal := by kernel_rfl
@[push_cast] theorem zc85 : zc Tryd.prog 85 = some [.nilFunc] := by kernel_rfl
@[push_cast] theorem nk85 : nk Tryd.prog 85 = .fnc := by kernel_rfl
@[push_cast] theorem cc85 : Go.Abs.concrete Tryd.prog 85 = true := by kernel_rfl
@[push_cast] theorem isl85 : isSlc Tryd.prog 85 = false := by kernel_rfl
@[push_cast] theorem ist85 : isStr Tryd.prog 85 = false := by kernel_rfl
@[push_cast] theorem ik85 : ikd Tryd.prog 85 = none := by kernel_rfl
@[push_cast] theorem tk86 : tk Tryd.prog 86 = .scal := by kernel_rfl
@[push_cast] theorem zc86 : zc Tryd.prog 86 = some [.nilFunc] := by kernel_rfl
@[push_cast] theorem nk86 : nk Tryd.prog 86 = .fnc := by kernel_rfl
@[push_cast] theorem cc86 : Go.Abs.concrete Tryd.prog 86 = true := by kernel_rfl
@[push_cast] theorem isl86 : isSlc Tryd.prog 86 = false := by kernel_rfl
@[push_cast] theorem ist86 : isStr Tryd.prog 86 = false := by kernel_rfl
@[push_cast] theorem ik86 : ikd Tryd.prog 86 = none := by kernel_rfl
@[push_cast] theorem tk87 : tk Tryd.prog 87 = .scal := by kernel_rfl
@[push_cast] theorem zc87 : zc Tryd.prog 87 = some [.int .i64 0] := by kernel_rfl
@[push_cast] theorem nk87 : nk Tryd.prog 87 = .other := by kernel_rfl
@[push_cast] theorem cc87 : Go.Abs.concrete Tryd.prog 87 = true := by kernel_rfl
@[push_cast] theorem isl87 : isSlc Tryd.prog 87 = false := by kernel_rfl
@[push_cast] theorem ist87 : isStr Tryd.prog 87 = false := by kernel_rfl
@[push_cast] theorem ik87 : ikd Tryd.prog 87 = some .i64 := by kernel_rfl
@[push_cast] theorem tk89 : tk Tryd.prog 89 = .scal := by kernel_rfl
@[push_cast] theorem zc89 : zc Tryd.prog 89 = some [.nilFunc] := by kernel_rfl
@[push_cast] theorem nk89 : nk Tryd.prog 89 = .fnc := by kernel_rfl
@[push_cast] theorem cc89 : Go.Abs.concrete Tryd.prog 89 = true := by kernel_rfl
@[push_cast] theorem isl89 : isSlc Tryd.prog 89 = false := by kernel_rfl
@[push_cast] theorem ist89 : isStr Tryd.prog 89 = false := by kernel_rfl
@[push_cast] theorem ik89 : ikd Tryd.prog 89 = none := by kernel_rfl
@[push_cast] theorem tk90 : tk Tryd.prog 90 = .aggr 3 := by kernel_rfl
@[push_cast] theorem zc90 : zc Tryd.prog 90 = some [.int .u16 0, .slice none 0 0, .slice none 0 0] := by kernel_rfl
@[push_cast] theorem fld90_0 : fld Tryd.prog 90 0 = some (0, .scal) := by kernel_rfl
@[push_cast] theorem fld90_1 : fld Tryd.prog 90 1 = some (1, .scal) := by kernel_rfl
@[push_cast] theorem fld90_2 : fld Tryd.prog 90 2 = some (2, .scal) := by kernel_rfl
@[push_cast] theorem pl90 : places Tryd.prog 90 = some [(0, 1), (1, 1), (2, 1)] := by kernel_rfl
@[push_cast] theorem nk90 : nk Tryd.prog 90 = .other := by kernel_rfl
@[push_cast] theorem cc90 : Go.Abs.concrete Tryd.prog 90 = true := by kernel_rfl
@[push_cast] theorem isl90 : isSlc Tryd.prog 90 = false := by kernel_rfl
@[push_cast] theorem ist90 : isStr Tryd.prog 90 = false := by kernel_rfl
@[push_cast] theorem ik90 : ikd Tryd.prog 90 = none := by kernel_rfl
@[push_cast] theorem tk91 : tk Tryd.prog 91 = .aggr 3 := by kernel_rfl
@[push_cast] theorem zc91 : zc Tryd.prog 91 = some [.int .u16 0, .slice none 0 0, .slice none 0 0] := by kernel_rfl
@[push_cast] theorem fld91_0 : fld Tryd.prog 91 0 = some (0, .scal) := by kernel_rfl
@[push_cast] theorem fld91_1 : fld Tryd.prog 91 1 = some (1, .scal) := by kernel_rfl
@[push_cast] theorem fld91_2 : fld Tryd.prog 91 2 = some (2, .scal) := by kernel_rfl
@[push_cast] theorem pl91 : places Tryd.prog 91 = some [(0, 1), (1, 1), (2, 1)] := by kernel_rfl
@[push_cast] theorem nk91 : nk Tryd.prog 91 = .other := by kernel_rfl
@[push_cast] theorem cc91 : Go.Abs.concrete Tryd.prog 91 = true := by kernel_rfl
@[push_cast] theorem isl91 : isSlc Tryd.prog 91 = false := by kernel_rfl
@[push_cast] theorem ist91 : isStr Tryd.prog 91 = false := by kernel_rfl
@[push_cast] theorem ik91 : ikd Tryd.prog 91 = none := by kernel_rfl
@[push_cast] theorem tk92 : tk Tryd.prog 92 = .scal := by kernel_rfl
@[push_cast] theorem zc92 : zc Tryd.prog 92 = some [.nilFunc] := by kernel_rfl
@[push_cast] theorem nk92 : nk Tryd.prog 92 = .fnc := by kernel_rfl
@[push_cast] theorem cc92 : Go.Abs.concrete Tryd.prog 92 = true := by kernel_rfl
@[push_cast] theorem isl92 : isSlc Tryd.prog 92 = false := by kernel_rfl
@[push_cast] theorem ist92 : isStr Tryd.prog 92 = false := by kernel_rfl
@[push_cast] theorem ik92 : ikd Tryd.prog 92 = none := by kernel_rfl
@[push_cast] theorem tk93 : tk Tryd.prog 93 = .scal := by kernel_rfl
@[push_cast] theorem zc93 : zc Tryd.prog 93 = some [.slice none 0 0] := by kernel_rfl
@[push_cast] theorem nk93 : nk Tryd.prog 93 = .slc := by kernel_rfl
@[push_cast] theorem cc93 : Go.Abs.concrete Tryd.prog 93 = true := by kernel_rfl
@[push_cast] theorem isl93 : isSlc Tryd.prog 93 = true := by kernel_rfl
@[push_cast] theorem ist93 : isStr Tryd.prog 93 = false := by kernel_rfl
@[push_cast] theorem ik93 : ikd Tryd.prog 93 = none := by kernel_rfl
@[push_cast] theorem es93 : elSz Tryd.prog 93 = some 2 := by kernel_rfl
@[push_cast] theorem eb93 : elB Tryd.prog 93 = 32 := by kernel_rfl
@[push_cast] theorem el93 : elT Tryd.prog 93 = some 95 := by kernel_rfl
@[push_cast] theorem by93 : isBys Tryd.prog 93 = false := by kernel_rfl
@[push_cast] theorem tk94 : tk Tryd.prog 94 = .aggr 2 := by kernel_rfl
@[push_cast] theorem zc94 : zc Tryd.prog 94 = some [.int .u16 0, .slice none 0 0] := by kernel_rfl
@[push_cast] theorem fld94_0 : fld Tryd.prog 94 0 = some (0, .scal) := by kernel_rfl
@[push_cast] theorem fld94_1 : fld Tryd.prog 94 1 = some (1, .scal) := by kernel_rfl
@[push_cast] theorem pl94 : places Tryd.prog 94 = some [(0, 1), (1, 1)] := by kernel_rfl
@[push_cast] theorem nk94 : nk Tryd.prog 94 = .other := by kernel_rfl
@[push_cast] theorem cc94 : Go.Abs.concrete Tryd.prog 94 = true := by kernel_rfl
@[push_cast] theorem isl94 : isSlc Tryd.prog 94 = false := by kernel_rfl
@[push_cast] theorem ist94 : isStr Tryd.prog 94 = false := by kernel_rfl
@[push_cast] theorem ik94 : ikd Tryd.prog 94 = none := by kernel_rfl
@[push_cast] theorem tk95 : tk Tryd.prog 95 = .aggr 2 := by kernel_rfl
@[push_cast] theorem zc95 : zc Tryd.prog 95 = some [.int .u16 0, .slice none 0 0] := by kernel_rfl
@[push_cast] theorem fld95_0 : fld Tryd.prog 95 0 = some (0, .scal) := by kernel_rfl
@[push_cast] theorem fld95_1 : fld Tryd.prog 95 1 = some (1, .scal) := by kernel_rfl
@[push_cast] theorem pl95 : places Tryd.prog 95 = some [(0, 1), (1, 1)] := by kernel_rfl
@[push_cast] theorem nk95 : nk Tryd.prog 95 = .other := by kernel_rfl
@[push_cast] theorem cc95 : Go.Abs.concrete Tryd.prog 95 = true := by kernel_rfl
@[push_cast] theorem isl95 : isSlc Tryd.prog 95 = false := by kernel_rfl
@[push_cast] theorem ist95 : isStr Tryd.prog 95 = false := by kernel_rfl
@[push_cast] theorem ik95 : ikd Tryd.prog 95 = none := by kernel_rfl
@[push_cast] theorem tk96 : tk Tryd.prog 96 = .scal := by kernel_rfl
@[push_cast] theorem zc96 : zc Tryd.prog 96 = some [.nilFunc] := by kernel_rfl
@[push_cast] theorem nk96 : nk Tryd.prog 96 = .fnc := by kernel_rfl
@[push_cast] theorem cc96 : Go.Abs.concrete Tryd.prog 96 = true := by kernel_rfl
@[push_cast] theorem isl96 : isSlc Tryd.prog 96 = false := by kernel_rfl
@[push_cast] theorem ist96 : isStr Tryd.prog 96 = false := by kernel_rfl
@[push_cast] theorem ik96 : ikd Tryd.prog 96 = none := by kernel_rfl
@[push_cast] theorem tk97 : tk Tryd.prog 97 = .aggr 2 := by kernel_rfl
@[push_cast] theorem zc97 : zc Tryd.prog 97 = some [.slice none 0 0, .int .i64 0] := by kernel_rfl
@[push_cast] theorem fld97_0 : fld Tryd.prog 97 0 = some (0, .scal) := by kernel_rfl
@[push_cast] theorem fld97_1 : fld Tryd.prog 97 1 = some (1, .scal) := by kernel_rfl
@[push_cast] theorem pl97 : places Tryd.prog 97 = some [(0, 1), (1, 1)] := by kernel_rfl
@[push_cast] theorem nk97 : nk Tryd.prog 97 = .other := by kernel_rfl
@[push_cast] theorem cc97 : Go.Abs.concrete Tryd.prog 97 = true := by kernel_rfl
@[push_cast] theorem isl97 : isSlc Tryd.prog 97 = false := by kernel_rfl
@[push_cast] theorem ist97 : isStr Tryd.prog 97 = false := by kernel_rfl
@[push_cast] theorem ik97 : ikd Tryd.prog 97 = none := by kernel_rfl
@[push_cast] theorem tk98 : tk Tryd.prog 98 = .aggr 2 := by kernel_rfl
@[push_cast] theorem zc98 : zc Tryd.prog 98 = some [.slice none 0 0, .int .i64 0] := by kernel_rfl
@[push_cast] theorem fld98_0 : fld Tryd.prog 98 0 = some (0, .scal) := by kernel_rfl
@[push_cast] theorem fld98_1 : fld Tryd.prog 98 1 = some (1, .scal) := by kernel_rfl
@[push_cast] theorem pl98 : places Tryd.prog 98 = some [(0, 1), (1, 1)] := by kernel_rfl
@[push_cast] theorem nk98 : nk Tryd.prog 98 = .other := by kernel_rfl
@[push_cast] theorem cc98 : Go.Abs.concrete Tryd.prog 98 = true := by kernel_rfl
@[push_cast] theorem isl98 : isSlc Tryd.prog 98 = false := by kernel_rfl
@[push_cast] theorem ist98 : isStr Tryd.prog 98 = false := by kernel_rfl
@[push_cast] theorem ik98 : ikd Tryd.prog 98 = none := by kernel_rfl
@[push_cast] theorem tk99 : tk Tryd.prog 99 = .scal := by kernel_rfl
@[push_cast] theorem zc99 : zc Tryd.prog 99 = some [.nilFunc] := by kernel_rfl
@[push_cast] theorem nk99 : nk Tryd.prog 99 = .fnc := by kernel_rfl
@[push_cast] theorem cc99 : Go.Abs.concrete Tryd.prog 99 = true := by kernel_rfl
@[push_cast] theorem isl99 : isSlc Tryd.prog 99 = false := by kernel_rfl
@[push_cast] theorem ist99 : isStr Tryd.prog 99 = false := by kernel_rfl
@[push_cast] theorem ik99 : ikd Tryd.prog 99 = none := by kernel_rfl
@[push_cast] theorem tk101 : tk Tryd.prog 101 = .scal := by kernel_rfl
@[push_cast] theorem zc101 : zc Tryd.prog 101 = some [.nilFunc] := by kernel_rfl
@[push_cast] theorem nk101 : nk Tryd.prog 101 = .fnc := by kernel_rfl
@[push_cast] theorem cc101 : Go.Abs.concrete Tryd.prog 101 = true := by kernel_rfl
@[push_cast] theorem isl101 : isSlc Tryd.prog 101 = false := by kernel_rfl
@[push_cast] theorem ist101 : isStr Tryd.prog 101 = false := by kernel_rfl
@[push_cast] theorem ik101 : ikd Tryd.prog 101 = none := by kernel_rfl
@[push_cast] theorem tk102 : tk Tryd.prog 102 = .scal := by kernel_rfl
@[push_cast] theorem zc102 : zc Tryd.prog 102 = some [.slice none 0 0] := by kernel_rfl
@[push_cast] theorem nk102 : nk Tryd.prog 102 = .slc := by kernel_rfl
@[push_cast] theorem cc102 : Go.Abs.concrete Tryd.prog 102 = true := by kernel_rfl
@[push_cast] theorem isl102 : isSlc Tryd.prog 102 = true := by kernel_rfl
@[push_cast] theorem ist102 : isStr Tryd.prog 102 = false := by kernel_rfl
@[push_cast] theorem ik102 : ikd Tryd.prog 102 = none := by kernel_rfl
@[push_cast] theorem es102 : elSz Tryd.prog 102 = some 7 := by kernel_rfl
@[push_cast] theorem eb102 : elB Tryd.prog 102 = 64 := by kernel_rfl
@[push_cast] theorem el102 : elT Tryd.prog 102 = some 80 := by kernel_rfl
@[push_cast] theorem by102 : isBys Tryd.prog 102 = false := by kernel_rfl
@[push_cast] theorem pl103 : places Tryd.prog 103 = some [(0, 7), (7, 7), (14, 7), (21, 7), (28, 7), (35, 7), (42, 7), (49, 7), (56, 7), (63, 7), (70, 7), (77, 7), (84, 7), (91, 7), (98, 7), (105, 7), (112, 7), (119, 7), (126, 7), (133, 7), (140, 7), (147, 7), (154, 7)] := by kernel_rfl
@[push_cast] theorem at103 : arrT Tryd.prog 103 = some (23, 80, 7) := by kernel_rfl
@[push_cast] theorem nk103 : nk Tryd.prog 103 = .other := by kernel_rfl
@[push_cast] theorem cc103 : Go.Abs.concrete Tryd.prog 103 = true := by kernel_rfl
@[push_cast] theorem isl103 : isSlc Tryd.prog 103 = false := by kernel_rfl
@[push_cast] theorem ist103 : isStr Tryd.prog 103 = false := by kernel_rfl
@[push_cast] theorem ik103 : ikd Tryd.prog 103 = none := by kernel_rfl
@[push_cast] theorem tk104 : tk Tryd.prog 104 = .scal := by kernel_rfl
@[push_cast] theorem zc104 : zc Tryd.prog 104 = some [.nilFunc] := by kernel_rfl
@[push_cast] theorem nk104 : nk Tryd.prog 104 = .fnc := by kernel_rfl
@[push_cast] theorem cc104 : Go.Abs.concrete Tryd.prog 104 = true := by kernel_rfl
@[push_cast] theorem isl104 : isSlc Tryd.prog 104 = false := by kernel_rfl
@[push_cast] theorem ist104 : isStr Tryd.prog 104 = false := by kernel_rfl
@[push_cast] theorem ik104 : ikd Tryd.prog 104 = none := by kernel_rfl
@[push_cast] theorem tk105 : tk Tryd.prog 105 = .aggr 3 := by kernel_rfl
@[push_cast] theorem zc105 : zc Tryd.prog 105 = some [.int .i64 0, .int .i64 0, .int .i64 0] := by kernel_rfl
@[push_cast] theorem pl105 : places Tryd.prog 105 = some [(0, 1), (1, 1), (2, 1)] := by kernel_rfl
@[push_cast] theorem at105 : arrT Tryd.prog 105 = some (3, 3, 1) := by kernel_rfl
@[push_cast] theorem nk105 : nk Tryd.prog 105 = .other := by kernel_rfl
@[push_cast] theorem cc105 : Go.Abs.concrete Tryd.prog 105 = true := by kernel_rfl
@[push_cast] theorem isl105 : isSlc Tryd.prog 105 = false := by kernel_rfl
@[push_cast] theorem ist105 : isStr Tryd.prog 105 = false := by kernel_rfl
@[push_cast] theorem ik105 : ikd Tryd.prog 105 = none := by kernel_rfl
@[push_cast] theorem tk106 : tk Tryd.prog 106 = .aggr 21 := by kernel_rfl
@[push_cast] theorem zc106 : zc Tryd.prog 106 = some [.int .i64 0, .int .i64 0, .int .i64 0, .int .i64 0, .int .i64 0, .int .i64 0, .int .i64 0, .int .i64 0, .int .i64 0, .int .i64 0, .int .i64 0, .int .i64 0, .int .i64 0, .int .i64 0, .int .i64 0, .int .i64 0, .int .i64 0, .int .i64 0, .int .i64 0, .int .i64 0, .int .i64 0] := by kernel_rfl
@[push_cast] theorem pl106 : places Tryd.prog 106 = some [(0, 3), (3, 3), (6, 3), (9, 3), (12, 3), (15, 3), (18, 3)] := by kernel_rfl
@[push_cast] theorem at106 : arrT Tryd.prog 106 = some (7, 105, 3) := by kernel_rfl
@[push_cast] theorem nk106 : nk Tryd.prog 106 = .other := by kernel_rfl
@[push_cast] theorem cc106 : Go.Abs.concrete Tryd.prog 106 = true := by kernel_rfl
@[push_cast] theorem isl106 : isSlc Tryd.prog 106 = false := by kernel_rfl
@[push_cast] theorem ist106 : isStr Tryd.prog 106 = false := by kernel_rfl
@[push_cast] theorem ik106 : ikd Tryd.prog 106 = none := by kernel_rfl
@[push_cast] theorem tk107 : tk Tryd.prog 107 = .scal := by kernel_rfl
@[push_cast] theorem zc107 : zc Tryd.prog 107 = some [.slice none 0 0] := by kernel_rfl
@[push_cast] theorem nk107 : nk Tryd.prog 107 = .slc := by kernel_rfl
@[push_cast] theorem cc107 : Go.Abs.concrete Tryd.prog 107 = true := by kernel_rfl
@[push_cast] theorem isl107 : isSlc Tryd.prog 107 = true := by kernel_rfl
@[push_cast] theorem ist107 : isStr Tryd.prog 107 = false := by kernel_rfl
@[push_cast] theorem ik107 : ikd Tryd.prog 107 = none := by kernel_rfl
@[push_cast] theorem es107 : elSz Tryd.prog 107 = some 1 := by kernel_rfl
@[push_cast] theorem eb107 : elB Tryd.prog 107 = 8 := by kernel_rfl
@[push_cast] theorem el107 : elT Tryd.prog 107 = some 108 := by kernel_rfl
@[push_cast] theorem by107 : isBys Tryd.prog 107 = false := by kernel_rfl
@[push_cast] theorem tk108 : tk Tryd.prog 108 = .scal := by kernel_rfl
@[push_cast] theorem zc108 : zc Tryd.prog 108 = some [.nilFunc] := by kernel_rfl
@[push_cast] theorem nk108 : nk Tryd.prog 108 = .fnc := by kernel_rfl
@[push_cast] theorem cc108 : Go.Abs.concrete Tryd.prog 108 = true := by kernel_rfl
@[push_cast] theorem isl108 : isSlc Tryd.prog 108 = false := by kernel_rfl
@[push_cast] theorem ist108 : isStr Tryd.prog 108 = false := by kernel_rfl
@[push_cast] theorem ik108 : ikd Tryd.prog 108 = none := by kernel_rfl
@[push_cast] theorem tk109 : tk Tryd.prog 109 = .scal := by kernel_rfl
@[push_cast] theorem zc109 : zc Tryd.prog 109 = some [.nilFunc] := by kernel_rfl
@[push_cast] theorem nk109 : nk Tryd.prog 109 = .fnc := by kernel_rfl
@[push_cast] theorem cc109 : Go.Abs.concrete Tryd.prog 109 = true := by kernel_rfl
@[push_cast] theorem isl109 : isSlc Tryd.prog 109 = false := by kernel_rfl
@[push_cast] theorem ist109 : isStr Tryd.prog 109 = false := by kernel_rfl
@[push_cast] theorem ik109 : ikd Tryd.prog 109 = none := by kernel_rfl
@[push_cast] theorem tk110 : tk Tryd.prog 110 = .scal := by kernel_rfl
@[push_cast] theorem zc110 : zc Tryd.prog 110 = some [.nilFunc] := by kernel_rfl
@[push_cast] theorem nk110 : nk Tryd.prog 110 = .fnc := by kernel_rfl
@[push_cast] theorem cc110 : Go.Abs.concrete Tryd.prog 110 = true := by kernel_rfl
@[push_cast] theorem isl110 : isSlc Tryd.prog 110 = false := by kernel_rfl
@[push_cast] theorem ist110 : isStr Tryd.prog 110 = false := by kernel_rfl
@[push_cast] theorem ik110 : ikd Tryd.prog 110 = none := by kernel_rfl
@[push_cast] theorem tk111 : tk Tryd.prog 111 = .scal := by kernel_rfl
@[push_cast] theorem zc111 : zc Tryd.prog 111 = some [.slice none 0 0] := by kernel_rfl
@[push_cast] theorem nk111 : nk Tryd.prog 111 = .slc := by kernel_rfl
@[push_cast] theorem cc111 : Go.Abs.concrete Tryd.prog 111 = true := by kernel_rfl
@[push_cast] theorem isl111 : isSlc Tryd.prog 111 = true := by kernel_rfl
@[push_cast] theorem ist111 : isStr Tryd.prog 111 = false := by kernel_rfl
@[push_cast] theorem ik111 : ikd Tryd.prog 111 = none := by kernel_rfl
@[push_cast] theorem es111 : elSz Tryd.prog 111 = some 1 := by kernel_rfl
@[push_cast] theorem eb111 : elB Tryd.prog 111 = 2 := by kernel_rfl
@[push_cast] theorem el111 : elT Tryd.prog 111 = some 23 := by kernel_rfl
@[push_cast] theorem by111 : isBys Tryd.prog 111 = false := by kernel_rfl
@[push_cast] theorem tk112 : tk Tryd.prog 112 = .scal := by kernel_rfl
@[push_cast] theorem zc112 : zc Tryd.prog 112 = some [.nilFunc] := by kernel_rfl
@[push_cast] theorem nk112 : nk Tryd.prog 112 = .fnc := by kernel_rfl
@[push_cast] theorem cc112 : Go.Abs.concrete Tryd.prog 112 = true := by kernel_rfl
@[push_cast] theorem isl112 : isSlc Tryd.prog 112 = false := by kernel_rfl
@[push_cast] theorem ist112 : isStr Tryd.prog 112 = false := by kernel_rfl
@[push_cast] theorem ik112 : ikd Tryd.prog 112 = none := by kernel_rfl
@[push_cast] theorem tk113 : tk Tryd.prog 113 = .scal := by kernel_rfl
@[push_cast] theorem zc113 : zc Tryd.prog 113 = some [.nilFunc] := by kernel_rfl
@[push_cast] theorem nk113 : nk Tryd.prog 113 = .fnc := by kernel_rfl
@[push_cast] theorem cc113 : Go.Abs.concrete Tryd.prog 113 = true := by kernel_rfl
@[push_cast] theorem isl113 : isSlc Tryd.prog 113 = false := by kernel_rfl
@[push_cast] theorem ist113 : isStr Tryd.prog 113 = false := by kernel_rfl
@[push_cast] theorem ik113 : ikd Tryd.prog 113 = none := by kernel_rfl
@[push_cast] theorem tk114 : tk Tryd.prog 114 = .scal := by kernel_rfl
@[push_cast] theorem zc114 : zc Tryd.prog 114 = some [.nilFunc] := by kernel_rfl
@[push_cast] theorem nk114 : nk Tryd.prog 114 = .fnc := by kernel_rfl
@[push_cast] theorem cc114 : Go.Abs.concrete Tryd.prog 114 = true := by kernel_rfl
@[push_cast] theorem isl114 : isSlc Tryd.prog 114 = false := by kernel_rfl
@[push_cast] theorem ist114 : isStr Tryd.prog 114 = false := by kernel_rfl
@[push_cast] theorem ik114 : ikd Tryd.prog 114 = none := by kernel_rfl
@[push_cast] theorem tk115 : tk Tryd.prog 115 = .scal := by kernel_rfl
@[push_cast] theorem zc115 : zc Tryd.prog 115 = some [.nilFunc] := by kernel_rfl
@[push_cast] theorem nk115 : nk Tryd.prog 115 = .fnc := by kernel_rfl
@[push_cast] theorem cc115 : Go.Abs.concrete Tryd.prog 115 = true := by kernel_rfl
@[push_cast] theorem isl115 : isSlc Tryd.prog 115 = false := by kernel_rfl
@[push_cast] theorem ist115 : isStr Tryd.prog 115 = false := by kernel_rfl
@[push_cast] theorem ik115 : ikd Tryd.prog 115 = none := by kernel_rfl
@[push_cast] theorem tk116 : tk Tryd.prog 116 = .scal := by kernel_rfl
@[push_cast] theorem zc116 : zc Tryd.prog 116 = some [.pointer none] := by kernel_rfl
@[push_cast] theorem nk116 : nk Tryd.prog 116 = .ptr := by kernel_rfl
@[push_cast] theorem cc116 : Go.Abs.concrete Tryd.prog 116 = true := by kernel_rfl
@[push_cast] theorem isl116 : isSlc Tryd.prog 116 = false := by kernel_rfl
@[push_cast] theorem ist116 : isStr Tryd.prog 116 = false := by kernel_rfl
@[push_cast] theorem ik116 : ikd Tryd.prog 116 = none := by kernel_rfl
@[push_cast] theorem tk117 : tk Tryd.prog 117 = .scal := by kernel_rfl
@[push_cast] theorem zc117 : zc Tryd.prog 117 = some [.nilFunc] := by kernel_rfl
@[push_cast] theorem nk117 : nk Tryd.prog 117 = .fnc := by kernel_rfl
@[push_cast] theorem cc117 : Go.Abs.concrete Tryd.prog 117 = true := by kernel_rfl
@[push_cast] theorem isl117 : isSlc Tryd.prog 117 = false := by kernel_rfl
@[push_cast] theorem ist117 : isStr Tryd.prog 117 = false := by kernel_rfl
@[push_cast] theorem ik117 : ikd Tryd.prog 117 = none := by kernel_rfl
@[push_cast] theorem tk118 : tk Tryd.prog 118 = .scal := by kernel_rfl
@[push_cast] theorem zc118 : zc Tryd.prog 118 = some [.slice none 0 0] := by kernel_rfl
@[push_cast] theorem nk118 : nk Tryd.prog 118 = .slc := by kernel_rfl
@[push_cast] theorem cc118 : Go.Abs.concrete Tryd.prog 118 = true := by kernel_rfl
@[push_cast] theorem isl118 : isSlc Tryd.prog 118 = true := by kernel_rfl
@[push_cast] theorem ist118 : isStr Tryd.prog 118 = false := by kernel_rfl
@[push_cast] theorem ik118 : ikd Tryd.prog 118 = none := by kernel_rfl
@[push_cast] theorem es118 : elSz Tryd.prog 118 = some 1 := by kernel_rfl
@[push_cast] theorem eb118 : elB Tryd.prog 118 = 8 := by kernel_rfl
@[push_cast] theorem el118 : elT Tryd.prog 118 = some 3 := by kernel_rfl
@[push_cast] theorem by118 : isBys Tryd.prog 118 = false := by kernel_rfl
@[push_cast] theorem tk119 : tk Tryd.prog 119 = .scal := by kernel_rfl
@[push_cast] theorem zc119 : zc Tryd.prog 119 = some [.nilFunc] := by kernel_rfl
@[push_cast] theorem nk119 : nk Tryd.prog 119 = .fnc := by kernel_rfl
@[push_cast] theorem cc119 : Go.Abs.concrete Tryd.prog 119 = true := by kernel_rfl
@[push_cast] theorem isl119 : isSlc Tryd.prog 119 = false := by kernel_rfl
@[push_cast] theorem ist119 : isStr Tryd.prog 119 = false := by kernel_rfl
@[push_cast] theorem ik119 : ikd Tryd.prog 119 = none := by kernel_rfl
@[push_cast] theorem tk120 : tk Tryd.prog 120 = .scal := by kernel_rfl
@[push_cast] theorem zc120 : zc Tryd.prog 120 = some [.nilFunc] := by kernel_rfl
@[push_cast] theorem nk120 : nk Tryd.prog 120 = .fnc := by kernel_rfl
@[push_cast] theorem cc120 : Go.Abs.concrete Tryd.prog 120 = true := by kernel_rfl
@[push_cast] theorem isl120 : isSlc Tryd.prog 120 = false := by kernel_rfl
@[push_cast] theorem ist120 : isStr Tryd.prog 120 = false := by kernel_rfl
@[push_cast] theorem ik120 : ikd Tryd.prog 120 = none := by kernel_rfl
@[push_cast] theorem tk121 : tk Tryd.prog 121 = .scal := by kernel_rfl
@[push_cast] theorem zc121 : zc Tryd.prog 121 = some [.nilFunc] := by kernel_rfl
@[push_cast] theorem nk121 : nk Tryd.prog 121 = .fnc := by kernel_rfl
@[push_cast] theorem cc121 : Go.Abs.concrete Tryd.prog 121 = true := by kernel_rfl
@[push_cast] theorem isl121 : isSlc Tryd.prog 121 = false := by kernel_rfl
@[push_cast] theorem ist121 : isStr Tryd.prog 121 = false := by kernel_rfl
@[push_cast] theorem ik121 : ikd Tryd.prog 121 = none := by kernel_rfl
@[push_cast] theorem tk122 : tk Tryd.prog 122 = .scal := by kernel_rfl
@[push_cast] theorem zc122 : zc Tryd.prog 122 = some [.nilFunc] := by kernel_rfl
@[push_cast] theorem nk122 : nk Tryd.prog 122 = .fnc := by kernel_rfl
@[push_cast] theorem cc122 : Go.Abs.concrete Tryd.prog 122 = true := by kernel_rfl
@[push_cast] theorem isl122 : isSlc Tryd.prog 122 = false := by kernel_rfl
@[push_cast] theorem ist122 : isStr Tryd.prog 122 = false := by kernel_rfl
@[push_cast] theorem ik122 : ikd Tryd.prog 122 = none := by kernel_rfl
@[push_cast] theorem tk123 : tk Tryd.prog 123 = .scal := by kernel_rfl
@[push_cast] theorem zc123 : zc Tryd.prog 123 = some [.int .u64 0] := by kernel_rfl
@[push_cast] theorem nk123 : nk Tryd.prog 123 = .other := by kernel_rfl
@[push_cast] theorem cc123 : Go.Abs.concrete Tryd.prog 123 = true := by kernel_rfl
@[push_cast] theorem isl123 : isSlc Tryd.prog 123 = false := by kernel_rfl
@[push_cast] theorem ist123 : isStr Tryd.prog 123 = false := by kernel_rfl
@[push_cast] theorem ik123 : ikd Tryd.prog 123 = some .u64 := by kernel_rfl
@[push_cast] theorem tk124 : tk Tryd.prog 124 = .aggr 2 := by kernel_rfl
@[push_cast] theorem zc124 : zc Tryd.prog 124 = some [.int .i64 0, .int .i64 0] := by kernel_rfl
@[push_cast] theorem fld124_0 : fld Tryd.prog 124 0 = some (0, .scal) := by kernel_rfl
@[push_cast] theorem fld124_1 : fld Tryd.prog 124 1 = some (1, .scal) := by kernel_rfl
@[push_cast] theorem pl124 : places Tryd.prog 124 = some [(0, 1), (1, 1)] := by kernel_rfl
@[push_cast] theorem nk124 : nk Tryd.prog 124 = .other := by kernel_rfl
@[push_cast] theorem cc124 : Go.Abs.concrete Tryd.prog 124 = true := by kernel_rfl
@[push_cast] theorem isl124 : isSlc Tryd.prog 124 = false := by kernel_rfl
@[push_cast] theorem ist124 : isStr Tryd.prog 124 = false := by kernel_rfl
@[push_cast] theorem ik124 : ikd Tryd.prog 124 = none := by kernel_rfl
@[push_cast] theorem tk125 : tk Tryd.prog 125 = .aggr 2 := by kernel_rfl
@[push_cast] theorem zc125 : zc Tryd.prog 125 = some [.int .i64 0, .int .i64 0] := by kernel_rfl
@[push_cast] theorem fld125_0 : fld Tryd.prog 125 0 = some (0, .scal) := by kernel_rfl
@[push_cast] theorem fld125_1 : fld Tryd.prog 125 1 = some (1, .scal) := by kernel_rfl
@[push_cast] theorem pl125 : places Tryd.prog 125 = some [(0, 1), (1, 1)] := by kernel_rfl
@[push_cast] theorem nk125 : nk Tryd.prog 125 = .other := by kernel_rfl
@[push_cast] theorem cc125 : Go.Abs.concrete Tryd.prog 125 = true := by kernel_rfl
@[push_cast] theorem isl125 : isSlc Tryd.prog 125 = false := by kernel_rfl
@[push_cast] theorem ist125 : isStr Tryd.prog 125 = false := by kernel_rfl
@[push_cast] theorem ik125 : ikd Tryd.prog 125 = none := by kernel_rfl
@[push_cast] theorem tk126 : tk Tryd.prog 126 = .scal := by kernel_rfl
@[push_cast] theorem zc126 : zc Tryd.prog 126 = some [.nilFunc] := by kernel_rfl
@[push_cast] theorem nk126 : nk Tryd.prog 126 = .fnc := by kernel_rfl
@[push_cast] theorem cc126 : Go.Abs.concrete Tryd.prog 126 = true := by kernel_rfl
@[push_cast] theorem isl126 : isSlc Tryd.prog 126 = false := by kernel_rfl
@[push_cast] theorem ist126 : isStr Tryd.prog 126 = false := by kernel_rfl
@[push_cast] theorem ik126 : ikd Tryd.prog 126 = none := by kernel_rfl
@[push_cast] theorem tk127 : tk Tryd.prog 127 = .scal := by kernel_rfl
@[push_cast] theorem zc127 : zc Tryd.prog 127 = some [.nilFunc] := by kernel_rfl
@[push_cast] theorem nk127 : nk Tryd.prog 127 = .fnc := by kernel_rfl
@[push_cast] theorem cc127 : Go.Abs.concrete Tryd.prog 127 = true := by kernel_rfl
@[push_cast] theorem isl127 : isSlc Tryd.prog 127 = false := by kernel_rfl
@[push_cast] theorem ist127 : isStr Tryd.prog 127 = false := by kernel_rfl
@[push_cast] theorem ik127 : ikd Tryd.prog 127 = none := by kernel_rfl
@[push_cast] theorem tk128 : tk Tryd.prog 128 = .scal := by kernel_rfl
@[push_cast] theorem zc128 : zc Tryd.prog 128 = some [.pointer none] := by kernel_rfl
@[push_cast] theorem nk128 : nk Tryd.prog 128 = .other := by kernel_rfl
@[push_cast] theorem cc128 : Go.Abs.concrete Tryd.prog 128 = true := by kernel_rfl
@[push_cast] theorem isl128 : isSlc Tryd.prog 128 = false := by kernel_rfl
@[push_cast] theorem ist128 : isStr Tryd.prog 128 = false := by kernel_rfl
@[push_cast] theorem ik128 : ikd Tryd.prog 128 = none := by kernel_rfl
@[push_cast] theorem tk129 : tk Tryd.prog 129 = .scal := by kernel_rfl
@[push_cast] theorem zc129 : zc Tryd.prog 129 = some [.int .u64 0] := by kernel_rfl
@[push_cast] theorem nk129 : nk Tryd.prog 129 = .other := by kernel_rfl
@[push_cast] theorem cc129 : Go.Abs.concrete Tryd.prog 129 = true := by kernel_rfl
@[push_cast] theorem isl129 : isSlc Tryd.prog 129 = false := by kernel_rfl
@[push_cast] theorem ist129 : isStr Tryd.prog 129 = false := by kernel_rfl
@[push_cast] theorem ik129 : ikd Tryd.prog 129 = some .u64 := by kernel_rfl
@[push_cast] theorem tk130 : tk Tryd.prog 130 = .aggr 3 := by kernel_rfl
@[push_cast] theorem zc130 : zc Tryd.prog 130 = some [.pointer none, .pointer none, .int .u64 0] := by kernel_rfl
@[push_cast] theorem fld130_0 : fld Tryd.prog 130 0 = some (0, .scal) := by kernel_rfl
@[push_cast] theorem fld130_1 : fld Tryd.prog 130 1 = some (1, .scal) := by kernel_rfl
@[push_cast] theorem fld130_2 : fld Tryd.prog 130 2 = some (2, .scal) := by kernel_rfl
@[push_cast] theorem pl130 : places Tryd.prog 130 = some [(0, 1), (1, 1), (2, 1)] := by kernel_rfl
@[push_cast] theorem nk130 : nk Tryd.prog 130 = .other := by kernel_rfl
@[push_cast] theorem cc130 : Go.Abs.concrete Tryd.prog 130 = true := by kernel_rfl
@[push_cast] theorem isl130 : isSlc Tryd.prog 130 = false := by kernel_rfl
@[push_cast] theorem ist130 : isStr Tryd.prog 130 = false := by kernel_rfl
@[push_cast] theorem ik130 : ikd Tryd.prog 130 = none := by kernel_rfl
@[push_cast] theorem tk131 : tk Tryd.prog 131 = .aggr 3 := by kernel_rfl
@[push_cast] theorem zc131 : zc Tryd.prog 131 = some [.pointer none, .pointer none, .int .u64 0] := by kernel_rfl
@[push_cast] theorem fld131_0 : fld Tryd.prog 131 0 = some (0, .scal) := by kernel_rfl
@[push_cast] theorem fld131_1 : fld Tryd.prog 131 1 = some (1, .scal) := by kernel_rfl
@[push_cast] theorem fld131_2 : fld Tryd.prog 131 2 = some (2, .scal) := by kernel_rfl
@[push_cast] theorem pl131 : places Tryd.prog 131 = some [(0, 1), (1, 1), (2, 1)] := by kernel_rfl
@[push_cast] theorem nk131 : nk Tryd.prog 131 = .other := by kernel_rfl
@[push_cast] theorem cc131 : Go.Abs.concrete Tryd.prog 131 = true := by kernel_rfl
@[push_cast] theorem isl131 : isSlc Tryd.prog 131 = false := by kernel_rfl
@[push_cast] theorem ist131 : isStr Tryd.prog 131 = false := by kernel_rfl
@[push_cast] theorem ik131 : ikd Tryd.prog 131 = none := by kernel_rfl
@[push_cast] theorem tk132 : tk Tryd.prog 132 = .scal := by kernel_rfl
@[push_cast] theorem zc132 : zc Tryd.prog 132 = some [.nilFunc] := by kernel_rfl
@[push_cast] theorem nk132 : nk Tryd.prog 132 = .fnc := by kernel_rfl
@[push_cast] theorem cc132 : Go.Abs.concrete Tryd.prog 132 = true := by kernel_rfl
@[push_cast] theorem isl132 : isSlc Tryd.prog 132 = false := by kernel_rfl
@[push_cast] theorem ist132 : isStr Tryd.prog 132 = false := by kernel_rfl
@[push_cast] theorem ik132 : ikd Tryd.prog 132 = none := by kernel_rfl
@[push_cast] theorem tk133 : tk Tryd.prog 133 = .scal := by kernel_rfl
@[push_cast] theorem zc133 : zc Tryd.prog 133 = some [.nilIface] := by kernel_rfl
@[push_cast] theorem nk133 : nk Tryd.prog 133 = .ifc := by kernel_rfl
@[push_cast] theorem isl133 : isSlc Tryd.prog 133 = false := by kernel_rfl
@[push_cast] theorem ist133 : isStr Tryd.prog 133 = false := by kernel_rfl
@[push_cast] theorem ik133 : ikd Tryd.prog 133 = none := by kernel_rfl
@[push_cast] theorem tk134 : tk Tryd.prog 134 = .scal := by kernel_rfl
@[push_cast] theorem zc134 : zc Tryd.prog 134 = some [.nilIface] := by kernel_rfl
@[push_cast] theorem nk134 : nk Tryd.prog 134 = .ifc := by kernel_rfl
@[push_cast] theorem isl134 : isSlc Tryd.prog 134 = false := by kernel_rfl
@[push_cast] theorem ist134 : isStr Tryd.prog 134 = false := by kernel_rfl
@[push_cast] theorem ik134 : ikd Tryd.prog 134 = none := by kernel_rfl
@[push_cast] theorem tk135 : tk Tryd.prog 135 = .scal := by kernel_rfl
@[push_cast] theorem zc135 : zc Tryd.prog 135 = some [.nilFunc] := by kernel_rfl
@[push_cast] theorem nk135 : nk Tryd.prog 135 = .fnc := by kernel_rfl
@[push_cast] theorem cc135 : Go.Abs.concrete Tryd.prog 135 = true := by kernel_rfl
@[push_cast] theorem isl135 : isSlc Tryd.prog 135 = false := by kernel_rfl
@[push_cast] theorem ist135 : isStr Tryd.prog 135 = false := by kernel_rfl
@[push_cast] theorem ik135 : ikd Tryd.prog 135 = none := by kernel_rfl
@[push_cast] theorem tk136 : tk Tryd.prog 136 = .scal := by kernel_rfl
@[push_cast] theorem zc136 : zc Tryd.prog 136 = some [.int .u8 0] := by kernel_rfl
@[push_cast] theorem nk136 : nk Tryd.prog 136 = .other := by kernel_rfl
@[push_cast] theorem cc136 : Go.Abs.concrete Tryd.prog 136 = true := by kernel_rfl
@[push_cast] theorem isl136 : isSlc Tryd.prog 136 = false := by kernel_rfl
@[push_cast] theorem ist136 : isStr Tryd.prog 136 = false := by kernel_rfl
@[push_cast] theorem ik136 : ikd Tryd.prog 136 = some .u8 := by kernel_rfl
@[push_cast] theorem tk137 : tk Tryd.prog 137 = .scal := by kernel_rfl
@[push_cast] theorem zc137 : zc Tryd.prog 137 = some [.nilFunc] := by kernel_rfl
@[push_cast] theorem nk137 : nk Tryd.prog 137 = .fnc := by kernel_rfl
@[push_cast] theorem cc137 : Go.Abs.concrete Tryd.prog 137 = true := by kernel_rfl
@[push_cast] theorem isl137 : isSlc Tryd.prog 137 = false := by kernel_rfl
@[push_cast] theorem ist137 : isStr Tryd.prog 137 = false := by kernel_rfl
@[push_cast] theorem ik137 : ikd Tryd.prog 137 = none := by kernel_rfl
@[push_cast] theorem tk138 : tk Tryd.prog 138 = .scal := by kernel_rfl
@[push_cast] theorem zc138 : zc Tryd.prog 138 = some [.nilFunc] := by kernel_rfl
@[push_cast] theorem nk138 : nk Tryd.prog 138 = .fnc := by kernel_rfl
@[push_cast] theorem cc138 : Go.Abs.concrete Tryd.prog 138 = true := by kernel_rfl
@[push_cast] theorem isl138 : isSlc Tryd.prog 138 = false := by kernel_rfl
@[push_cast] theorem ist138 : isStr Tryd.prog 138 = false := by kernel_rfl
@[push_cast] theorem ik138 : ikd Tryd.prog 138 = none := by kernel_rfl
@[push_cast] theorem tk139 : tk Tryd.prog 139 = .scal := by kernel_rfl
@[push_cast] theorem zc139 : zc Tryd.prog 139 = some [.nilFunc] := by kernel_rfl
@[push_cast] theorem nk139 : nk Tryd.prog 139 = .fnc := by kernel_rfl
@[push_cast] theorem cc139 : Go.Abs.concrete Tryd.prog 139 = true := by kernel_rfl
@[push_cast] theorem isl139 : isSlc Tryd.prog 139 = false := by kernel_rfl
@[push_cast] theorem ist139 : isStr Tryd.prog 139 = false := by kernel_rfl
@[push_cast] theorem ik139 : ikd Tryd.prog 139 = none := by kernel_rfl
@[push_cast] theorem tk140 : tk Tryd.prog 140 = .aggr 7 := by kernel_rfl
@[push_cast] theorem zc140 : zc Tryd.prog 140 = some [.int .i64 0, .int .u16 0, .string ⟨#[]⟩, .int .i64 0, .int .i64 0, .int .i64 0, .int .i64 0] := by kernel_rfl
@[push_cast] theorem fld140_0 : fld Tryd.prog 140 0 = some (0, .scal) := by kernel_rfl
@[push_cast] theorem fld140_1 : fld Tryd.prog 140 1 = some (1, .scal) := by kernel_rfl
@[push_cast] theorem fld140_2 : fld Tryd.prog 140 2 = some (2, .scal) := by kernel_rfl
@[push_cast] theorem fld140_3 : fld Tryd.prog 140 3 = some (3, .scal) := by kernel_rfl
@[push_cast] theorem fld140_4 : fld Tryd.prog 140 4 = some (4, .scal) := by kernel_rfl
@[push_cast] theorem fld140_5 : fld Tryd.prog 140 5 = some (5, .scal) := by kernel_rfl
@[push_cast] theorem fld140_6 : fld Tryd.prog 140 6 = some (6, .scal) := by kernel_rfl
@[push_cast] theorem pl140 : places Tryd.prog 140 = some [(0, 1), (1, 1), (2, 1), (3, 1), (4, 1), (5, 1), (6, 1)] := by kernel_rfl
@[push_cast] theorem nk140 : nk Tryd.prog 140 = .other := by kernel_rfl
@[push_cast] theorem cc140 : Go.Abs.concrete Tryd.prog 140 = true := by kernel_rfl
@[push_cast] theorem isl140 : isSlc Tryd.prog 140 = false := by kernel_rfl
@[push_cast] theorem ist140 : isStr Tryd.prog 140 = false := by kernel_rfl
@[push_cast] theorem ik140 : ikd Tryd.prog 140 = none := by kernel_rfl
@[push_cast] theorem tk141 : tk Tryd.prog 141 = .aggr 7 := by kernel_rfl
@[push_cast] theorem zc141 : zc Tryd.prog 141 = some [.int .i64 0, .int .u16 0, .string ⟨#[]⟩, .int .i64 0, .int .i64 0, .int .i64 0, .int .i64 0] := by kernel_rfl
@[push_cast] theorem fld141_0 : fld Tryd.prog 141 0 = some (0, .scal) := by kernel_rfl
@[push_cast] theorem fld141_1 : fld Tryd.prog 141 1 = some (1, .scal) := by kernel_rfl
@[push_cast] theorem fld141_2 : fld Tryd.prog 141 2 = some (2, .scal) := by kernel_rfl
@[push_cast] theorem fld141_3 : fld Tryd.prog 141 3 = some (3, .scal) := by kernel_rfl
@[push_cast] theorem fld141_4 : fld Tryd.prog 141 4 = some (4, .scal) := by kernel_rfl
@[push_cast] theorem fld141_5 : fld Tryd.prog 141 5 = some (5, .scal) := by kernel_rfl
@[push_cast] theorem fld141_6 : fld Tryd.prog 141 6 = some (6, .scal) := by kernel_rfl
@[push_cast] theorem pl141 : places Tryd.prog 141 = some [(0, 1), (1, 1), (2, 1), (3, 1), (4, 1), (5, 1), (6, 1)] := by kernel_rfl
@[push_cast] theorem nk141 : nk Tryd.prog 141 = .other := by kernel_rfl
@[push_cast] theorem cc141 : Go.Abs.concrete Tryd.prog 141 = true := by kernel_rfl
@[push_cast] theorem isl141 : isSlc Tryd.prog 141 = false := by kernel_rfl
@[push_cast] theorem ist141 : isStr Tryd.prog 141 = false := by kernel_rfl
@[push_cast] theorem ik141 : ikd Tryd.prog 141 = none := by kernel_rfl
@[push_cast] theorem tk143 : tk Tryd.prog 143 = .scal := by kernel_rfl
@[push_cast] theorem zc143 : zc Tryd.prog 143 = some [.nilFunc] := by kernel_rfl
@[push_cast] theorem nk143 : nk Tryd.prog 143 = .fnc := by kernel_rfl
@[push_cast] theorem cc143 : Go.Abs.concrete Tryd.prog 143 = true := by kernel_rfl
@[push_cast] theorem isl143 : isSlc Tryd.prog 143 = false := by kernel_rfl
@[push_cast] theorem ist143 : isStr Tryd.prog 143 = false := by kernel_rfl
@[push_cast] theorem ik143 : ikd Tryd.prog 143 = none := by kernel_rfl
@[push_cast] theorem tk144 : tk Tryd.prog 144 = .scal := by kernel_rfl
@[push_cast] theorem zc144 : zc Tryd.prog 144 = some [.nilFunc] := by kernel_rfl
@[push_cast] theorem nk144 : nk Tryd.prog 144 = .fnc := by kernel_rfl
@[push_cast] theorem cc144 : Go.Abs.concrete Tryd.prog 144 = true := by kernel_rfl
@[push_cast] theorem isl144 : isSlc Tryd.prog 144 = false := by kernel_rfl
@[push_cast] theorem ist144 : isStr Tryd.prog 144 = false := by kernel_rfl
@[push_cast] theorem ik144 : ikd Tryd.prog 144 = none := by kernel_rfl
@[push_cast] theorem tk145 : tk Tryd.prog 145 = .scal := by kernel_rfl
@[push_cast] theorem zc145 : zc Tryd.prog 145 = some [.nilFunc] := by kernel_rfl
@[push_cast] theorem nk145 : nk Tryd.prog 145 = .fnc := by kernel_rfl
@[push_cast] theorem cc145 : Go.Abs.concrete Tryd.prog 145 = true := by kernel_rfl
@[push_cast] theorem isl145 : isSlc Tryd.prog 145 = false := by kernel_rfl
@[push_cast] theorem ist145 : isStr Tryd.prog 145 = false := by kernel_rfl
@[push_cast] theorem ik145 : ikd Tryd.prog 145 = none := by kernel_rfl
@[push_cast] theorem tk146 : tk Tryd.prog 146 = .scal := by kernel_rfl
@[push_cast] theorem zc146 : zc Tryd.prog 146 = some [.nilFunc] := by kernel_rfl
@[push_cast] theorem nk146 : nk Tryd.prog 146 = .fnc := by kernel_rfl
@[push_cast] theorem cc146 : Go.Abs.concrete Tryd.prog 146 = true := by kernel_rfl
@[push_cast] theorem isl146 : isSlc Tryd.prog 146 = false := by kernel_rfl
@[push_cast] theorem ist146 : isStr Tryd.prog 146 = false := by kernel_rfl
@[push_cast] theorem ik146 : ikd Tryd.prog 146 = none := by kernel_rfl
@[push_cast] theorem tk147 : tk Tryd.prog 147 = .scal := by kernel_rfl
@[push_cast] theorem zc147 : zc Tryd.prog 147 = some [.nilFunc] := by kernel_rfl
@[push_cast] theorem nk147 : nk Tryd.prog 147 = .fnc := by kernel_rfl
@[push_cast] theorem cc147 : Go.Abs.concrete Tryd.prog 147 = true := by kernel_rfl
@[push_cast] theorem isl147 : isSlc Tryd.prog 147 = false := by kernel_rfl
@[push_cast] theorem ist147 : isStr Tryd.prog 147 = false := by kernel_rfl
@[push_cast] theorem ik147 : ikd Tryd.prog 147 = none := by kernel_rfl
@[push_cast] theorem tk148 : tk Tryd.prog 148 = .scal := by kernel_rfl
@[push_cast] theorem zc148 : zc Tryd.prog 148 = some [.nilFunc] := by kernel_rfl
@[push_cast] theorem nk148 : nk Tryd.prog 148 = .fnc := by kernel_rfl
@[push_cast] theorem cc148 : Go.Abs.concrete Tryd.prog 148 = true := by kernel_rfl
@[push_cast] theorem isl148 : isSlc Tryd.prog 148 = false := by kernel_rfl
@[push_cast] theorem ist148 : isStr Tryd.prog 148 = false := by kernel_rfl
@[push_cast] theorem ik148 : ikd Tryd.prog 148 = none := by kernel_rfl
@[push_cast] theorem tk149 : tk Tryd.prog 149 = .scal := by kernel_rfl
@[push_cast] theorem zc149 : zc Tryd.prog 149 = some [.nilFunc] := by kernel_rfl
@[push_cast] theorem nk149 : nk Tryd.prog 149 = .fnc := by kernel_rfl
@[push_cast] theorem cc149 : Go.Abs.concrete Tryd.prog 149 = true := by kernel_rfl
@[push_cast] theorem isl149 : isSlc Tryd.prog 149 = false := by kernel_rfl
@[push_cast] theorem ist149 : isStr Tryd.prog 149 = false := by kernel_rfl
@[push_cast] theorem ik149 : ikd Tryd.prog 149 = none := by kernel_rfl
@[push_cast] theorem tk150 : tk Tryd.prog 150 = .scal := by kernel_rfl
@[push_cast] theorem zc150 : zc Tryd.prog 150 = some [.nilFunc] := by kernel_rfl
@[push_cast] theorem nk150 : nk Tryd.prog 150 = .fnc := by kernel_rfl
@[push_cast] theorem cc150 : Go.Abs.concrete Tryd.prog 150 = true := by kernel_rfl
@[push_cast] theorem isl150 : isSlc Tryd.prog 150 = false := by kernel_rfl
@[push_cast] theorem ist150 : isStr Tryd.prog 150 = false := by kernel_rfl
@[push_cast] theorem ik150 : ikd Tryd.prog 150 = none := by kernel_rfl
@[push_cast] theorem tk151 : tk Tryd.prog 151 = .aggr 1 := by kernel_rfl
@[push_cast] theorem zc151 : zc Tryd.prog 151 = some [.pointer none] := by kernel_rfl
@[push_cast] theorem fld151_0 : fld Tryd.prog 151 0 = some (0, .scal) := by kernel_rfl
@[push_cast] theorem pl151 : places Tryd.prog 151 = some [(0, 1)] := by kernel_rfl
@[push_cast] theorem nk151 : nk Tryd.prog 151 = .other := by kernel_rfl
@[push_cast] theorem cc151 : Go.Abs.concrete Tryd.prog 151 = true := by kernel_rfl
@[push_cast] theorem isl151 : isSlc Tryd.prog 151 = false := by kernel_rfl
@[push_cast] theorem ist151 : isStr Tryd.prog 151 = false := by kernel_rfl
@[push_cast] theorem ik151 : ikd Tryd.prog 151 = none := by kernel_rfl
@[push_cast] theorem tk152 : tk Tryd.prog 152 = .aggr 1 := by kernel_rfl
@[push_cast] theorem zc152 : zc Tryd.prog 152 = some [.pointer none] := by kernel_rfl
@[push_cast] theorem fld152_0 : fld Tryd.prog 152 0 = some (0, .scal) := by kernel_rfl
@[push_cast] theorem pl152 : places Tryd.prog 152 = some [(0, 1)] := by kernel_rfl
@[push_cast] theorem nk152 : nk Tryd.prog 152 = .other := by kernel_rfl
@[push_cast] theorem cc152 : Go.Abs.concrete Tryd.prog 152 = true := by kernel_rfl
@[push_cast] theorem isl152 : isSlc Tryd.prog 152 = false := by kernel_rfl
@[push_cast] theorem ist152 : isStr Tryd.prog 152 = false := by kernel_rfl
@[push_cast] theorem ik152 : ikd Tryd.prog 152 = none := by kernel_rfl
@[push_cast] theorem tk153 : tk Tryd.prog 153 = .scal := by kernel_rfl
@[push_cast] theorem zc153 : zc Tryd.prog 153 = some [.pointer none] := by kernel_rfl
@[push_cast] theorem nk153 : nk Tryd.prog 153 = .ptr := by kernel_rfl
@[push_cast] theorem cc153 : Go.Abs.concrete Tryd.prog 153 = true := by kernel_rfl
@[push_cast] theorem isl153 : isSlc Tryd.prog 153 = false := by kernel_rfl
@[push_cast] theorem ist153 : isStr Tryd.prog 153 = false := by kernel_rfl
@[push_cast] theorem ik153 : ikd Tryd.prog 153 = none := by kernel_rfl
@[push_cast] theorem tk154 : tk Tryd.prog 154 = .scal := by kernel_rfl
@[push_cast] theorem zc154 : zc Tryd.prog 154 = some [.nilFunc] := by kernel_rfl
@[push_cast] theorem nk154 : nk Tryd.prog 154 = .fnc := by kernel_rfl
@[push_cast] theorem cc154 : Go.Abs.concrete Tryd.prog 154 = true := by kernel_rfl
@[push_cast] theorem isl154 : isSlc Tryd.prog 154 = false := by kernel_rfl
@[push_cast] theorem ist154 : isStr Tryd.prog 154 = false := by kernel_rfl
@[push_cast] theorem ik154 : ikd Tryd.prog 154 = none := by kernel_rfl
@[push_cast] theorem tk155 : tk Tryd.prog 155 = .scal := by kernel_rfl
@[push_cast] theorem zc155 : zc Tryd.prog 155 = some [.nilFunc] := by kernel_rfl
@[push_cast] theorem nk155 : nk Tryd.prog 155 = .fnc := by kernel_rfl
@[push_cast] theorem cc155 : Go.Abs.concrete Tryd.prog 155 = true := by kernel_rfl
@[push_cast] theorem isl155 : isSlc Tryd.prog 155 = false := by kernel_rfl
@[push_cast] theorem ist155 : isStr Tryd.prog 155 = false := by kernel_rfl
@[push_cast] theorem ik155 : ikd Tryd.prog 155 = none := by kernel_rfl
@[push_cast] theorem tk156 : tk Tryd.prog 156 = .scal := by kernel_rfl
@[push_cast] theorem zc156 : zc Tryd.prog 156 = some [.nilFunc] := by kernel_rfl
@[push_cast] theorem nk156 : nk Tryd.prog 156 = .fnc := by kernel_rfl
@[push_cast] theorem cc156 : Go.Abs.concrete Tryd.prog 156 = true := by kernel_rfl
@[push_cast] theorem isl156 : isSlc Tryd.prog 156 = false := by kernel_rfl
@[push_cast] theorem ist156 : isStr Tryd.prog 156 = false := by kernel_rfl
@[push_cast] theorem ik156 : ikd Tryd.prog 156 = none := by kernel_rfl
@[push_cast] theorem tk157 : tk Tryd.prog 157 = .scal := by kernel_rfl
@[push_cast] theorem zc157 : zc Tryd.prog 157 = some [.nilIface] := by kernel_rfl
@[push_cast] theorem nk157 : nk Tryd.prog 157 = .ifc := by kernel_rfl
@[push_cast] theorem isl157 : isSlc Tryd.prog 157 = false := by kernel_rfl
@[push_cast] theorem ist157 : isStr Tryd.prog 157 = false := by kernel_rfl
@[push_cast] theorem ik157 : ikd Tryd.prog 157 = none := by kernel_rfl
@[push_cast] theorem tk159 : tk Tryd.prog 159 = .scal := by kernel_rfl
@[push_cast] theorem zc159 : zc Tryd.prog 159 = some [.nilFunc] := by kernel_rfl
@[push_cast] theorem nk159 : nk Tryd.prog 159 = .fnc := by kernel_rfl
@[push_cast] theorem cc159 : Go.Abs.concrete Tryd.prog 159 = true := by kernel_rfl
@[push_cast] theorem isl159 : isSlc Tryd.prog 159 = false := by kernel_rfl
@[push_cast] theorem ist159 : isStr Tryd.prog 159 = false := by kernel_rfl
@[push_cast] theorem ik159 : ikd Tryd.prog 159 = none := by kernel_rfl
@[push_cast] theorem tk160 : tk Tryd.prog 160 = .scal := by kernel_rfl
@[push_cast] theorem zc160 : zc Tryd.prog 160 = some [.nilIface] := by kernel_rfl
@[push_cast] theorem nk160 : nk Tryd.prog 160 = .ifc := by kernel_rfl
@[push_cast] theorem isl160 : isSlc Tryd.prog 160 = false := by kernel_rfl
@[push_cast] theorem ist160 : isStr Tryd.prog 160 = false := by kernel_rfl
@[push_cast] theorem ik160 : ikd Tryd.prog 160 = none := by kernel_rfl
@[push_cast] theorem tk161 : tk Tryd.prog 161 = .scal := by kernel_rfl
@[push_cast] theorem zc161 : zc Tryd.prog 161 = some [.nilFunc] := by kernel_rfl
@[push_cast] theorem nk161 : nk Tryd.prog 161 = .fnc := by kernel_rfl
@[push_cast] theorem cc161 : Go.Abs.concrete Tryd.prog 161 = true := by kernel_rfl
@[push_cast] theorem isl161 : isSlc Tryd.prog 161 = false := by kernel_rfl
@[push_cast] theorem ist161 : isStr Tryd.prog 161 = false := by kernel_rfl
@[push_cast] theorem ik161 : ikd Tryd.prog 161 = none := by kernel_rfl
@[push_cast] theorem tk162 : tk Tryd.prog 162 = .scal := by kernel_rfl
@[push_cast] theorem zc162 : zc Tryd.prog 162 = some [.nilIface] := by kernel_rfl
@[push_cast] theorem nk162 : nk Tryd.prog 162 = .ifc := by kernel_rfl
@[push_cast] theorem isl162 : isSlc Tryd.prog 162 = false := by kernel_rfl
@[push_cast] theorem ist162 : isStr Tryd.prog 162 = false := by kernel_rfl
@[push_cast] theorem ik162 : ikd Tryd.prog 162 = none := by kernel_rfl
@[push_cast] theorem tk163 : tk Tryd.prog 163 = .scal := by kernel_rfl
@[push_cast] theorem zc163 : zc Tryd.prog 163 = some [.slice none 0 0] := by kernel_rfl
@[push_cast] theorem nk163 : nk Tryd.prog 163 = .slc := by kernel_rfl
@[push_cast] theorem cc163 : Go.Abs.concrete Tryd.prog 163 = true := by kernel_rfl
@[push_cast] theorem isl163 : isSlc Tryd.prog 163 = true := by kernel_rfl
@[push_cast] theorem ist163 : isStr Tryd.prog 163 = false := by kernel_rfl
@[push_cast] theorem ik163 : ikd Tryd.prog 163 = none := by kernel_rfl
@[push_cast] theorem es163 : elSz Tryd.prog 163 = some 1 := by kernel_rfl
@[push_cast] theorem eb163 : elB Tryd.prog 163 = 16 := by kernel_rfl
@[push_cast] theorem el163 : elT Tryd.prog 163 = some 61 := by kernel_rfl
@[push_cast] theorem by163 : isBys Tryd.prog 163 = false := by kernel_rfl
@[push_cast] theorem tk164 : tk Tryd.prog 164 = .scal := by kernel_rfl
@[push_cast] theorem zc164 : zc Tryd.prog 164 = some [.nilFunc] := by kernel_rfl
@[push_cast] theorem nk164 : nk Tryd.prog 164 = .fnc := by kernel_rfl
@[push_cast] theorem cc164 : Go.Abs.concrete Tryd.prog 164 = true := by kernel_rfl
@[push_cast] theorem isl164 : isSlc Tryd.prog 164 = false := by kernel_rfl
@[push_cast] theorem ist164 : isStr Tryd.prog 164 = false := by kernel_rfl
@[push_cast] theorem ik164 : ikd Tryd.prog 164 = none := by kernel_rfl
@[push_cast] theorem tk165 : tk Tryd.prog 165 = .scal := by kernel_rfl
@[push_cast] theorem zc165 : zc Tryd.prog 165 = some [.map none] := by kernel_rfl
@[push_cast] theorem mk165 : mpKey Tryd.prog 165 = some (.u16, 141) := by kernel_rfl
@[push_cast] theorem mz165 : mpZero Tryd.prog 141 = some (.agg #[.int .i64 0, .int .u16 0, .string ⟨#[]⟩, .int .i64 0, .int .i64 0, .int .i64 0, .int .i64 0]) := by kernel_rfl
@[push_cast] theorem nk165 : nk Tryd.prog 165 = .other := by kernel_rfl
@[push_cast] theorem cc165 : Go.Abs.concrete Tryd.prog 165 = true := by kernel_rfl
@[push_cast] theorem isl165 : isSlc Tryd.prog 165 = false := by kernel_rfl
@[push_cast] theorem ist165 : isStr Tryd.prog 165 = false := by kernel_rfl
@[push_cast] theorem ik165 : ikd Tryd.prog 165 = none := by kernel_rfl
@[push_cast] theorem tk166 : tk Tryd.prog 166 = .scal := by kernel_rfl
@[push_cast] theorem zc166 : zc Tryd.prog 166 = some [.nilFunc] := by kernel_rfl
@[push_cast] theorem nk166 : nk Tryd.prog 166 = .fnc := by kernel_rfl
@[push_cast] theorem cc166 : Go.Abs.concrete Tryd.prog 166 = true := by kernel_rfl
@[push_cast] theorem isl166 : isSlc Tryd.prog 166 = false := by kernel_rfl
@[push_cast] theorem ist166 : isStr Tryd.prog 166 = false := by kernel_rfl
@[push_cast] theorem ik166 : ikd Tryd.prog 166 = none := by kernel_rfl
@[push_cast] theorem tk167 : tk Tryd.prog 167 = .scal := by kernel_rfl
@[push_cast] theorem zc167 : zc Tryd.prog 167 = some [.slice none 0 0] := by kernel_rfl
@[push_cast] theorem nk167 : nk Tryd.prog 167 = .slc := by kernel_rfl
@[push_cast] theorem cc167 : Go.Abs.concrete Tryd.prog 167 = true := by kernel_rfl
@[push_cast] theorem isl167 : isSlc Tryd.prog 167 = true := by kernel_rfl
@[push_cast] theorem ist167 : isStr Tryd.prog 167 = false := by kernel_rfl
@[push_cast] theorem ik167 : ikd Tryd.prog 167 = none := by kernel_rfl
@[push_cast] theorem es167 : elSz Tryd.prog 167 = some 7 := by kernel_rfl
@[push_cast] theorem eb167 : elB Tryd.prog 167 = 64 := by kernel_rfl
@[push_cast] theorem el167 : elT Tryd.prog 167 = some 141 := by kernel_rfl
@[push_cast] theorem by167 : isBys Tryd.prog 167 = false := by kernel_rfl
@[push_cast] theorem tk168 : tk Tryd.prog 168 = .aggr 3 := by kernel_rfl
@[push_cast] theorem zc168 : zc Tryd.prog 168 = some [.slice none 0 0, .slice none 0 0, .slice none 0 0] := by kernel_rfl
@[push_cast] theorem pl168 : places Tryd.prog 168 = some [(0, 1), (1, 1), (2, 1)] := by kernel_rfl
@[push_cast] theorem at168 : arrT Tryd.prog 168 = some (3, 167, 1) := by kernel_rfl
@[push_cast] theorem nk168 : nk Tryd.prog 168 = .other := by kernel_rfl
@[push_cast] theorem cc168 : Go.Abs.concrete Tryd.prog 168 = true := by kernel_rfl
@[push_cast] theorem isl168 : isSlc Tryd.prog 168 = false := by kernel_rfl
@[push_cast] theorem ist168 : isStr Tryd.prog 168 = false := by kernel_rfl
@[push_cast] theorem ik168 : ikd Tryd.prog 168 = none := by kernel_rfl
@[push_cast] theorem tk169 : tk Tryd.prog 169 = .scal := by kernel_rfl
@[push_cast] theorem zc169 : zc Tryd.prog 169 = some [.nilFunc] := by kernel_rfl
@[push_cast] theorem nk169 : nk Tryd.prog 169 = .fnc := by kernel_rfl
@[push_cast] theorem cc169 : Go.Abs.concrete Tryd.prog 169 = true := by kernel_rfl
@[push_cast] theorem isl169 : isSlc Tryd.prog 169 = false := by kernel_rfl
@[push_cast] theorem ist169 : isStr Tryd.prog 169 = false := by kernel_rfl
@[push_cast] theorem ik169 : ikd Tryd.prog 169 = none := by kernel_rfl
@[push_cast] theorem tk170 : tk Tryd.prog 170 = .scal := by kernel_rfl
@[push_cast] theorem zc170 : zc Tryd.prog 170 = some [.nilFunc] := by kernel_rfl
@[push_cast] theorem nk170 : nk Tryd.prog 170 = .fnc := by kernel_rfl
@[push_cast] theorem cc170 : Go.Abs.concrete Tryd.prog 170 = true := by kernel_rfl
@[push_cast] theorem isl170 : isSlc Tryd.prog 170 = false := by kernel_rfl
@[push_cast] theorem ist170 : isStr Tryd.prog 170 = false := by kernel_rfl
@[push_cast] theorem ik170 : ikd Tryd.prog 170 = none := by kernel_rfl
@[push_cast] theorem tk171 : tk Tryd.prog 171 = .aggr 4 := by kernel_rfl
@[push_cast] theorem zc171 : zc Tryd.prog 171 = some [.pointer none, .pointer none, .pointer none, .string ⟨#[]⟩] := by kernel_rfl
@[push_cast] theorem fld171_0 : fld Tryd.prog 171 0 = some (0, .scal) := by kernel_rfl
@[push_cast] theorem fld171_1 : fld Tryd.prog 171 1 = some (1, .scal) := by kernel_rfl
@[push_cast] theorem fld171_2 : fld Tryd.prog 171 2 = some (2, .scal) := by kernel_rfl
@[push_cast] theorem fld171_3 : fld Tryd.prog 171 3 = some (3, .scal) := by kernel_rfl
@[push_cast] theorem pl171 : places Tryd.prog 171 = some [(0, 1), (1, 1), (2, 1), (3, 1)] := by kernel_rfl
@[push_cast] theorem nk171 : nk Tryd.prog 171 = .other := by kernel_rfl
@[push_cast] theorem cc171 : Go.Abs.concrete Tryd.prog 171 = true := by kernel_rfl
@[push_cast] theorem isl171 : isSlc Tryd.prog 171 = false := by kernel_rfl
@[push_cast] theorem ist171 : isStr Tryd.prog 171 = false := by kernel_rfl
@[push_cast] theorem ik171 : ikd Tryd.prog 171 = none := by kernel_rfl
@[push_cast] theorem tk172 : tk Tryd.prog 172 = .aggr 4 := by kernel_rfl
@[push_cast] theorem zc172 : zc Tryd.prog 172 = some [.pointer none, .pointer none, .pointer none, .string ⟨#[]⟩] := by kernel_rfl
@[push_cast] theorem fld172_0 : fld Tryd.prog 172 0 = some (0, .scal) := by kernel_rfl
@[push_cast] theorem fld172_1 : fld Tryd.prog 172 1 = some (1, .scal) := by kernel_rfl
@[push_cast] theorem fld172_2 : fld Tryd.prog 172 2 = some (2, .scal) := by kernel_rfl
@[push_cast] theorem fld172_3 : fld Tryd.prog 172 3 = some (3, .scal) := by kernel_rfl
@[push_cast] theorem pl172 : places Tryd.prog 172 = some [(0, 1), (1, 1), (2, 1), (3, 1)] := by kernel_rfl
@[push_cast] theorem nk172 : nk Tryd.prog 172 = .other := by kernel_rfl
@[push_cast] theorem cc172 : Go.Abs.concrete Tryd.prog 172 = true := by kernel_rfl
@[push_cast] theorem isl172 : isSlc Tryd.prog 172 = false := by kernel_rfl
@[push_cast] theorem ist172 : isStr Tryd.prog 172 = false := by kernel_rfl
@[push_cast] theorem ik172 : ikd Tryd.prog 172 = none := by kernel_rfl
@[push_cast] theorem tk173 : tk Tryd.prog 173 = .aggr 0 := by kernel_rfl
@[push_cast] theorem zc173 : zc Tryd.prog 173 = some [] := by kernel_rfl
@[push_cast] theorem pl173 : places Tryd.prog 173 = some [] := by kernel_rfl
@[push_cast] theorem at173 : arrT Tryd.prog 173 = some (0, 16, 1) := by kernel_rfl
@[push_cast] theorem nk173 : nk Tryd.prog 173 = .other := by kernel_rfl
@[push_cast] theorem cc173 : Go.Abs.concrete Tryd.prog 173 = true := by kernel_rfl
@[push_cast] theorem isl173 : isSlc Tryd.prog 173 = false := by kernel_rfl
@[push_cast] theorem ist173 : isStr Tryd.prog 173 = false := by kernel_rfl
@[push_cast] theorem ik173 : ikd Tryd.prog 173 = none := by kernel_rfl
@[push_cast] theorem tk174 : tk Tryd.prog 174 = .aggr 0 := by kernel_rfl
@[push_cast] theorem zc174 : zc Tryd.prog 174 = some [] := by kernel_rfl
@[push_cast] theorem pl174 : places Tryd.prog 174 = some [(0, 0)] := by kernel_rfl
@[push_cast] theorem nk174 : nk Tryd.prog 174 = .other := by kernel_rfl
@[push_cast] theorem cc174 : Go.Abs.concrete Tryd.prog 174 = true := by kernel_rfl
@[push_cast] theorem isl174 : isSlc Tryd.prog 174 = false := by kernel_rfl
@[push_cast] theorem ist174 : isStr Tryd.prog 174 = false := by kernel_rfl
@[push_cast] theorem ik174 : ikd Tryd.prog 174 = none := by kernel_rfl
@[push_cast] theorem tk175 : tk Tryd.prog 175 = .aggr 0 := by kernel_rfl
@[push_cast] theorem zc175 : zc Tryd.prog 175 = some [] := by kernel_rfl
@[push_cast] theorem pl175 : places Tryd.prog 175 = some [(0, 0)] := by kernel_rfl
@[push_cast] theorem nk175 : nk Tryd.prog 175 = .other := by kernel_rfl
@[push_cast] theorem cc175 : Go.Abs.concrete Tryd.prog 175 = true := by kernel_rfl
@[push_cast] theorem isl175 : isSlc Tryd.prog 175 = false := by kernel_rfl
@[push_cast] theorem ist175 : isStr Tryd.prog 175 = false := by kernel_rfl
@[push_cast] theorem ik175 : ikd Tryd.prog 175 = none := by kernel_rfl
@[push_cast] theorem tk176 : tk Tryd.prog 176 = .scal := by kernel_rfl
@[push_cast] theorem zc176 : zc Tryd.prog 176 = some [.nilFunc] := by kernel_rfl
@[push_cast] theorem nk176 : nk Tryd.prog 176 = .fnc := by kernel_rfl
@[push_cast] theorem cc176 : Go.Abs.concrete Tryd.prog 176 = true := by kernel_rfl
@[push_cast] theorem isl176 : isSlc Tryd.prog 176 = false := by kernel_rfl
@[push_cast] theorem ist176 : isStr Tryd.prog 176 = false := by kernel_rfl
@[push_cast] theorem ik176 : ikd Tryd.prog 176 = none := by kernel_rfl
@[push_cast] theorem tk177 : tk Tryd.prog 177 = .scal := by kernel_rfl
@[push_cast] theorem zc177 : zc Tryd.prog 177 = some [.int .u8 0] := by kernel_rfl
@[push_cast] theorem nk177 : nk Tryd.prog 177 = .other := by kernel_rfl
@[push_cast] theorem cc177 : Go.Abs.concrete Tryd.prog 177 = true := by kernel_rfl
@[push_cast] theorem isl177 : isSlc Tryd.prog 177 = false := by kernel_rfl
@[push_cast] theorem ist177 : isStr Tryd.prog 177 = false := by kernel_rfl
@[push_cast] theorem ik177 : ikd Tryd.prog 177 = some .u8 := by kernel_rfl
@[push_cast] theorem tk178 : tk Tryd.prog 178 = .scal := by kernel_rfl
@[push_cast] theorem zc178 : zc Tryd.prog 178 = some [.nilFunc] := by kernel_rfl
@[push_cast] theorem nk178 : nk Tryd.prog 178 = .fnc := by kernel_rfl
@[push_cast] theorem cc178 : Go.Abs.concrete Tryd.prog 178 = true := by kernel_rfl
@[push_cast] theorem isl178 : isSlc Tryd.prog 178 = false := by kernel_rfl
@[push_cast] theorem ist178 : isStr Tryd.prog 178 = false := by kernel_rfl
@[push_cast] theorem ik178 : ikd Tryd.prog 178 = none := by kernel_rfl
@[push_cast] theorem tk179 : tk Tryd.prog 179 = .scal := by kernel_rfl
@[push_cast] theorem zc179 : zc Tryd.prog 179 = some [.pointer none] := by kernel_rfl
@[push_cast] theorem nk179 : nk Tryd.prog 179 = .ptr := by kernel_rfl
@[push_cast] theorem cc179 : Go.Abs.concrete Tryd.prog 179 = true := by kernel_rfl
@[push_cast] theorem isl179 : isSlc Tryd.prog 179 = false := by kernel_rfl
@[push_cast] theorem ist179 : isStr Tryd.prog 179 = false := by kernel_rfl
@[push_cast] theorem ik179 : ikd Tryd.prog 179 = none := by kernel_rfl
@[push_cast] theorem tk180 : tk Tryd.prog 180 = .scal := by kernel_rfl
@[push_cast] theorem zc180 : zc Tryd.prog 180 = some [.int .i32 0] := by kernel_rfl
@[push_cast] theorem nk180 : nk Tryd.prog 180 = .other := by kernel_rfl
@[push_cast] theorem cc180 : Go.Abs.concrete Tryd.prog 180 = true := by kernel_rfl
@[push_cast] theorem isl180 : isSlc Tryd.prog 180 = false := by kernel_rfl
@[push_cast] theorem ist180 : isStr Tryd.prog 180 = false := by kernel_rfl
@[push_cast] theorem ik180 : ikd Tryd.prog 180 = some .i32 := by kernel_rfl
@[push_cast] theorem tk181 : tk Tryd.prog 181 = .scal := by kernel_rfl
@[push_cast] theorem zc181 : zc Tryd.prog 181 = some [.int .i32 0] := by kernel_rfl
@[push_cast] theorem nk181 : nk Tryd.prog 181 = .other := by kernel_rfl
@[push_cast] theorem cc181 : Go.Abs.concrete Tryd.prog 181 = true := by kernel_rfl
@[push_cast] theorem isl181 : isSlc Tryd.prog 181 = false := by kernel_rfl
@[push_cast] theorem ist181 : isStr Tryd.prog 181 = false := by kernel_rfl
@[push_cast] theorem ik181 : ikd Tryd.prog 181 = some .i32 := by kernel_rfl
@[push_cast] theorem tk182 : tk Tryd.prog 182 = .aggr 11 := by kernel_rfl
@[push_cast] theorem zc182 : zc Tryd.prog 182 = some [.int .u64 0, .int .u64 0, .int .u32 0, .int .u8 0, .int .u8 0, .int .u8 0, .int .u8 0, .nilFunc, .pointer none, .int .i32 0, .int .i32 0] := by kernel_rfl
@[push_cast] theorem fld182_0 : fld Tryd.prog 182 0 = some (0, .scal) := by kernel_rfl
@[push_cast] theorem fld182_1 : fld Tryd.prog 182 1 = some (1, .scal) := by kernel_rfl
@[push_cast] theorem fld182_2 : fld Tryd.prog 182 2 = some (2, .scal) := by kernel_rfl
@[push_cast] theorem fld182_3 : fld Tryd.prog 182 3 = some (3, .scal) := by kernel_rfl
@[push_cast] theorem fld182_4 : fld Tryd.prog 182 4 = some (4, .scal) := by kernel_rfl
@[push_cast] theorem fld182_5 : fld Tryd.prog 182 5 = some (5, .scal) := by kernel_rfl
@[push_cast] theorem fld182_6 : fld Tryd.prog 182 6 = some (6, .scal) := by kernel_rfl
@[push_cast] theorem fld182_7 : fld Tryd.prog 182 7 = some (7, .scal) := by kernel_rfl
@[push_cast] theorem fld182_8 : fld Tryd.prog 182 8 = some (8, .scal) := by kernel_rfl
@[push_cast] theorem fld182_9 : fld Tryd.prog 182 9 = some (9, .scal) := by kernel_rfl
@[push_cast] theorem fld182_10 : fld Tryd.prog 182 10 = some (10, .scal) := by kernel_rfl
@[push_cast] theorem pl182 : places Tryd.prog 182 = some [(0, 1), (1, 1), (2, 1), (3, 1), (4, 1), (5, 1), (6, 1), (7, 1), (8, 1), (9, 1), (10, 1)] := by kernel_rfl
@[push_cast] theorem nk182 : nk Tryd.prog 182 = .other := by kernel_rfl
@[push_cast] theorem cc182 : Go.Abs.concrete Tryd.prog 182 = true := by kernel_rfl
@[push_cast] theorem isl182 : isSlc Tryd.prog 182 = false := by kernel_rfl
@[push_cast] theorem ist182 : isStr Tryd.prog 182 = false := by kernel_rfl
@[push_cast] theorem ik182 : ikd Tryd.prog 182 = none := by kernel_rfl
@[push_cast] theorem tk183 : tk Tryd.prog 183 = .aggr 11 := by kernel_rfl
@[push_cast] theorem zc183 : zc Tryd.prog 183 = some [.int .u64 0, .int .u64 0, .int .u32 0, .int .u8 0, .int .u8 0, .int .u8 0, .int .u8 0, .nilFunc, .pointer none, .int .i32 0, .int .i32 0] := by kernel_rfl
@[push_cast] theorem fld183_0 : fld Tryd.prog 183 0 = some (0, .scal) := by kernel_rfl
@[push_cast] theorem fld183_1 : fld Tryd.prog 183 1 = some (1, .scal) := by kernel_rfl
@[push_cast] theorem fld183_2 : fld Tryd.prog 183 2 = some (2, .scal) := by kernel_rfl
@[push_cast] theorem fld183_3 : fld Tryd.prog 183 3 = some (3, .scal) := by kernel_rfl
@[push_cast] theorem fld183_4 : fld Tryd.prog 183 4 = some (4, .scal) := by kernel_rfl
@[push_cast] theorem fld183_5 : fld Tryd.prog 183 5 = some (5, .scal) := by kernel_rfl
@[push_cast] theorem fld183_6 : fld Tryd.prog 183 6 = some (6, .scal) := by kernel_rfl
@[push_cast] theorem fld183_7 : fld Tryd.prog 183 7 = some (7, .scal) := by kernel_rfl
@[push_cast] theorem fld183_8 : fld Tryd.prog 183 8 = some (8, .scal) := by kernel_rfl
@[push_cast] theorem fld183_9 : fld Tryd.prog 183 9 = some (9, .scal) := by kernel_rfl
@[push_cast] theorem fld183_10 : fld Tryd.prog 183 10 = some (10, .scal) := by kernel_rfl
@[push_cast] theorem pl183 : places Tryd.prog 183 = some [(0, 1), (1, 1), (2, 1), (3, 1), (4, 1), (5, 1), (6, 1), (7, 1), (8, 1), (9, 1), (10, 1)] := by kernel_rfl
@[push_cast] theorem nk183 : nk Tryd.prog 183 = .other := by kernel_rfl
@[push_cast] theorem cc183 : Go.Abs.concrete Tryd.prog 183 = true := by kernel_rfl
@[push_cast] theorem isl183 : isSlc Tryd.prog 183 = false := by kernel_rfl
@[push_cast] theorem ist183 : isStr Tryd.prog 183 = false := by kernel_rfl
@[push_cast] theorem ik183 : ikd Tryd.prog 183 = none := by kernel_rfl
@[push_cast] theorem tk184 : tk Tryd.prog 184 = .scal := by kernel_rfl
@[push_cast] theorem zc184 : zc Tryd.prog 184 = some [.nilFunc] := by kernel_rfl
@[push_cast] theorem nk184 : nk Tryd.prog 184 = .fnc := by kernel_rfl
@[push_cast] theorem cc184 : Go.Abs.concrete Tryd.prog 184 = true := by kernel_rfl
@[push_cast] theorem isl184 : isSlc Tryd.prog 184 = false := by kernel_rfl
@[push_cast] theorem ist184 : isStr Tryd.prog 184 = false := by kernel_rfl
@[push_cast] theorem ik184 : ikd Tryd.prog 184 = none := by kernel_rfl
@[push_cast] theorem tk185 : tk Tryd.prog 185 = .scal := by kernel_rfl
@[push_cast] theorem zc185 : zc Tryd.prog 185 = some [.nilFunc] := by kernel_rfl
@[push_cast] theorem nk185 : nk Tryd.prog 185 = .fnc := by kernel_rfl
@[push_cast] theorem cc185 : Go.Abs.concrete Tryd.prog 185 = true := by kernel_rfl
@[push_cast] theorem isl185 : isSlc Tryd.prog 185 = false := by kernel_rfl
@[push_cast] theorem ist185 : isStr Tryd.prog 185 = false := by kernel_rfl
@[push_cast] theorem ik185 : ikd Tryd.prog 185 = none := by kernel_rfl
@[push_cast] theorem tk186 : tk Tryd.prog 186 = .aggr 2 := by kernel_rfl
@[push_cast] theorem zc186 : zc Tryd.prog 186 = some [.string ⟨#[]⟩, .int .u8 0] := by kernel_rfl
@[push_cast] theorem fld186_0 : fld Tryd.prog 186 0 = some (0, .scal) := by kernel_rfl
@[push_cast] theorem fld186_1 : fld Tryd.prog 186 1 = some (1, .scal) := by kernel_rfl
@[push_cast] theorem pl186 : places Tryd.prog 186 = some [(0, 1), (1, 1)] := by kernel_rfl
@[push_cast] theorem nk186 : nk Tryd.prog 186 = .other := by kernel_rfl
@[push_cast] theorem cc186 : Go.Abs.concrete Tryd.prog 186 = true := by kernel_rfl
@[push_cast] theorem isl186 : isSlc Tryd.prog 186 = false := by kernel_rfl
@[push_cast] theorem ist186 : isStr Tryd.prog 186 = false := by kernel_rfl
@[push_cast] theorem ik186 : ikd Tryd.prog 186 = none := by kernel_rfl
@[push_cast] theorem tk187 : tk Tryd.prog 187 = .aggr 2 := by kernel_rfl
@[push_cast] theorem zc187 : zc Tryd.prog 187 = some [.string ⟨#[]⟩, .int .u8 0] := by kernel_rfl
@[push_cast] theorem fld187_0 : fld Tryd.prog 187 0 = some (0, .scal) := by kernel_rfl
@[push_cast] theorem fld187_1 : fld Tryd.prog 187 1 = some (1, .scal) := by kernel_rfl
@[push_cast] theorem pl187 : places Tryd.prog 187 = some [(0, 1), (1, 1)] := by kernel_rfl
@[push_cast] theorem nk187 : nk Tryd.prog 187 = .other := by kernel_rfl
@[push_cast] theorem cc187 : Go.Abs.concrete Tryd.prog 187 = true := by kernel_rfl
@[push_cast] theorem isl187 : isSlc Tryd.prog 187 = false := by kernel_rfl
@[push_cast] theorem ist187 : isStr Tryd.prog 187 = false := by kernel_rfl
@[push_cast] theorem ik187 : ikd Tryd.prog 187 = none := by kernel_rfl
@[push_cast] theorem tk188 : tk Tryd.prog 188 = .scal := by kernel_rfl
@[push_cast] theorem zc188 : zc Tryd.prog 188 = some [.pointer none] := by kernel_rfl
@[push_cast] theorem nk188 : nk Tryd.prog 188 = .ptr := by kernel_rfl
@[push_cast] theorem cc188 : Go.Abs.concrete Tryd.prog 188 = true := by kernel_rfl
@[push_cast] theorem isl188 : isSlc Tryd.prog 188 = false := by kernel_rfl
@[push_cast] theorem ist188 : isStr Tryd.prog 188 = false := by kernel_rfl
@[push_cast] theorem ik188 : ikd Tryd.prog 188 = none := by kernel_rfl
@[push_cast] theorem tk189 : tk Tryd.prog 189 = .scal := by kernel_rfl
@[push_cast] theorem zc189 : zc Tryd.prog 189 = some [.nilFunc] := by kernel_rfl
@[push_cast] theorem nk189 : nk Tryd.prog 189 = .fnc := by kernel_rfl
@[push_cast] theorem cc189 : Go.Abs.concrete Tryd.prog 189 = true := by kernel_rfl
@[push_cast] theorem isl189 : isSlc Tryd.prog 189 = false := by kernel_rfl
@[push_cast] theorem ist189 : isStr Tryd.prog 189 = false := by kernel_rfl
@[push_cast] theorem ik189 : ikd Tryd.prog 189 = none := by kernel_rfl
@[push_cast] theorem tk190 : tk Tryd.prog 190 = .aggr 5 := by kernel_rfl
@[push_cast] theorem zc190 : zc Tryd.prog 190 = some [.int .i32 0, .int .u16 0, .int .u16 0, .int .u32 0, .int .u32 0] := by kernel_rfl
@[push_cast] theorem fld190_0 : fld Tryd.prog 190 0 = some (0, .scal) := by kernel_rfl
@[push_cast] theorem fld190_1 : fld Tryd.prog 190 1 = some (1, .scal) := by kernel_rfl
@[push_cast] theorem fld190_2 : fld Tryd.prog 190 2 = some (2, .scal) := by kernel_rfl
@[push_cast] theorem fld190_3 : fld Tryd.prog 190 3 = some (3, .scal) := by kernel_rfl
@[push_cast] theorem fld190_4 : fld Tryd.prog 190 4 = some (4, .scal) := by kernel_rfl
@[push_cast] theorem pl190 : places Tryd.prog 190 = some [(0, 1), (1, 1), (2, 1), (3, 1), (4, 1)] := by kernel_rfl
@[push_cast] theorem nk190 : nk Tryd.prog 190 = .other := by kernel_rfl
@[push_cast] theorem cc190 : Go.Abs.concrete Tryd.prog 190 = true := by kernel_rfl
@[push_cast] theorem isl190 : isSlc Tryd.prog 190 = false := by kernel_rfl
@[push_cast] theorem ist190 : isStr Tryd.prog 190 = false := by kernel_rfl
@[push_cast] theorem ik190 : ikd Tryd.prog 190 = none := by kernel_rfl
@[push_cast] theorem tk191 : tk Tryd.prog 191 = .aggr 5 := by kernel_rfl
@[push_cast] theorem zc191 : zc Tryd.prog 191 = some [.int .i32 0, .int .u16 0, .int .u16 0, .int .u32 0, .int .u32 0] := by kernel_rfl
@[push_cast] theorem fld191_0 : fld Tryd.prog 191 0 = some (0, .scal) := by kernel_rfl
@[push_cast] theorem fld191_1 : fld Tryd.prog 191 1 = some (1, .scal) := by kernel_rfl
@[push_cast] theorem fld191_2 : fld Tryd.prog 191 2 = some (2, .scal) := by kernel_rfl
@[push_cast] theorem fld191_3 : fld Tryd.prog 191 3 = some (3, .scal) := by kernel_rfl
@[push_cast] theorem fld191_4 : fld Tryd.prog 191 4 = some (4, .scal) := by kernel_rfl
@[push_cast] theorem pl191 : places Tryd.prog 191 = some [(0, 1), (1, 1), (2, 1), (3, 1), (4, 1)] := by kernel_rfl
@[push_cast] theorem nk191 : nk Tryd.prog 191 = .other := by kernel_rfl
@[push_cast] theorem cc191 : Go.Abs.concrete Tryd.prog 191 = true := by kernel_rfl
@[push_cast] theorem isl191 : isSlc Tryd.prog 191 = false := by kernel_rfl
@[push_cast] theorem ist191 : isStr Tryd.prog 191 = false := by kernel_rfl
@[push_cast] theorem ik191 : ikd Tryd.prog 191 = none := by kernel_rfl
@[push_cast] theorem tk192 : tk Tryd.prog 192 = .scal := by kernel_rfl
@[push_cast] theorem zc192 : zc Tryd.prog 192 = some [.slice none 0 0] := by kernel_rfl
@[push_cast] theorem nk192 : nk Tryd.prog 192 = .slc := by kernel_rfl
@[push_cast] theorem cc192 : Go.Abs.concrete Tryd.prog 192 = true := by kernel_rfl
@[push_cast] theorem isl192 : isSlc Tryd.prog 192 = true := by kernel_rfl
@[push_cast] theorem ist192 : isStr Tryd.prog 192 = false := by kernel_rfl
@[push_cast] theorem ik192 : ikd Tryd.prog 192 = none := by kernel_rfl
@[push_cast] theorem es192 : elSz Tryd.prog 192 = some 4 := by kernel_rfl
@[push_cast] theorem eb192 : elB Tryd.prog 192 = 16 := by kernel_rfl
@[push_cast] theorem el192 : elT Tryd.prog 192 = some 195 := by kernel_rfl
@[push_cast] theorem by192 : isBys Tryd.prog 192 = false := by kernel_rfl
@[push_cast] theorem tk193 : tk Tryd.prog 193 = .scal := by kernel_rfl
@[push_cast] theorem zc193 : zc Tryd.prog 193 = some [.int .i32 0] := by kernel_rfl
@[push_cast] theorem nk193 : nk Tryd.prog 193 = .other := by kernel_rfl
@[push_cast] theorem cc193 : Go.Abs.concrete Tryd.prog 193 = true := by kernel_rfl
@[push_cast] theorem isl193 : isSlc Tryd.prog 193 = false := by kernel_rfl
@[push_cast] theorem ist193 : isStr Tryd.prog 193 = false := by kernel_rfl
@[push_cast] theorem ik193 : ikd Tryd.prog 193 = some .i32 := by kernel_rfl
@[push_cast] theorem tk194 : tk Tryd.prog 194 = .aggr 4 := by kernel_rfl
@[push_cast] theorem zc194 : zc Tryd.prog 194 = some [.int .i32 0, .int .i32 0, .int .i32 0, .int .i32 0] := by kernel_rfl
@[push_cast] theorem fld194_0 : fld Tryd.prog 194 0 = some (0, .scal) := by kernel_rfl
@[push_cast] theorem fld194_1 : fld Tryd.prog 194 1 = some (1, .scal) := by kernel_rfl
@[push_cast] theorem fld194_2 : fld Tryd.prog 194 2 = some (2, .scal) := by kernel_rfl
@[push_cast] theorem fld194_3 : fld Tryd.prog 194 3 = some (3, .scal) := by kernel_rfl
@[push_cast] theorem pl194 : places Tryd.prog 194 = some [(0, 1), (1, 1), (2, 1), (3, 1)] := by kernel_rfl
@[push_cast] theorem nk194 : nk Tryd.prog 194 = .other := by kernel_rfl
@[push_cast] theorem cc194 : Go.Abs.concrete Tryd.prog 194 = true := by kernel_rfl
@[push_cast] theorem isl194 : isSlc Tryd.prog 194 = false := by kernel_rfl
@[push_cast] theorem ist194 : isStr Tryd.prog 194 = false := by kernel_rfl
@[push_cast] theorem ik194 : ikd Tryd.prog 194 = none := by kernel_rfl
@[push_cast] theorem tk195 : tk Tryd.prog 195 = .aggr 4 := by kernel_rfl
@[push_cast] theorem zc195 : zc Tryd.prog 195 = some [.int .i32 0, .int .i32 0, .int .i32 0, .int .i32 0] := by kernel_rfl
@[push_cast] theorem fld195_0 : fld Tryd.prog 195 0 = some (0, .scal) := by kernel_rfl
@[push_cast] theorem fld195_1 : fld Tryd.prog 195 1 = some (1, .scal) := by kernel_rfl
@[push_cast] theorem fld195_2 : fld Tryd.prog 195 2 = some (2, .scal) := by kernel_rfl
@[push_cast] theorem fld195_3 : fld Tryd.prog 195 3 = some (3, .scal) := by kernel_rfl
@[push_cast] theorem pl195 : places Tryd.prog 195 = some [(0, 1), (1, 1), (2, 1), (3, 1)] := by kernel_rfl
@[push_cast] theorem nk195 : nk Tryd.prog 195 = .other := by kernel_rfl
@[push_cast] theorem cc195 : Go.Abs.concrete Tryd.prog 195 = true := by kernel_rfl
@[push_cast] theorem isl195 : isSlc Tryd.prog 195 = false := by kernel_rfl
@[push_cast] theorem ist195 : isStr Tryd.prog 195 = false := by kernel_rfl
@[push_cast] theorem ik195 : ikd Tryd.prog 195 = none := by kernel_rfl
@[push_cast] theorem tk196 : tk Tryd.prog 196 = .scal := by kernel_rfl
@[push_cast] theorem zc196 : zc Tryd.prog 196 = some [.pointer none] := by kernel_rfl
@[push_cast] theorem nk196 : nk Tryd.prog 196 = .ptr := by kernel_rfl
@[push_cast] theorem cc196 : Go.Abs.concrete Tryd.prog 196 = true := by kernel_rfl
@[push_cast] theorem isl196 : isSlc Tryd.prog 196 = false := by kernel_rfl
@[push_cast] theorem ist196 : isStr Tryd.prog 196 = false := by kernel_rfl
@[push_cast] theorem ik196 : ikd Tryd.prog 196 = none := by kernel_rfl
@[push_cast] theorem mixed : Tryd.prog.follows .mixedOrders = true := by kernel_rfl
@[push_cast] theorem rg0 : List.range 0 = [] := rfl
@[push_cast] theorem rg1 : List.range 1 = [0] := rfl
@[push_cast] theorem rg2 : List.range 2 = [0, 1] := rfl
@[push_cast] theorem rg3 : List.range 3 = [0, 1, 2] := rfl
@[push_cast] theorem rg4 : List.range 4 = [0, 1, 2, 3] := rfl
@[push_cast] theorem rg5 : List.range 5 = [0, 1, 2, 3, 4] := rfl
@[push_cast] theorem rg6 : List.range 6 = [0, 1, 2, 3, 4, 5] := rfl
@[push_cast] theorem rg7 : List.range 7 = [0, 1, 2, 3, 4, 5, 6] := rfl
@[push_cast] theorem rg8 : List.range 8 = [0, 1, 2, 3, 4, 5, 6, 7] := rfl
@[push_cast] theorem rg9 : List.range 9 = [0, 1, 2, 3, 4, 5, 6, 7, 8] := rfl
@[push_cast] theorem rg10 : List.range 10 = [0, 1, 2, 3, 4, 5, 6, 7, 8, 9] := rfl
@[push_cast] theorem rg11 : List.range 11 = [0, 1, 2, 3, 4, 5, 6, 7, 8, 9, 10] := rfl
@[push_cast] theorem rg12 : List.range 12 = [0, 1, 2, 3, 4, 5, 6, 7, 8, 9, 10, 11] := rfl
@[push_cast] theorem rg13 : List.range 13 = [0, 1, 2, 3, 4, 5, 6, 7, 8, 9, 10, 11, 12] := rfl
@[push_cast] theorem rg14 : List.range 14 = [0, 1, 2, 3, 4, 5, 6, 7, 8, 9, 10, 11, 12, 13] := rfl
@[push_cast] theorem rg15 : List.range 15 = [0, 1, 2, 3, 4, 5, 6, 7, 8, 9, 10, 11, 12, 13, 14] := rfl
@[push_cast] theorem rg16 : List.range 16 = [0, 1, 2, 3, 4, 5, 6, 7, 8, 9, 10, 11, 12, 13, 14, 15] := rfl
@[push_cast] theorem rg17 : List.range 17 = [0, 1, 2, 3, 4, 5, 6, 7, 8, 9, 10, 11, 12, 13, 14, 15, 16] := rfl
@[push_cast] theorem rg18 : List.range 18 = [0, 1, 2, 3, 4, 5, 6, 7, 8, 9, 10, 11, 12, 13, 14, 15, 16, 17] := rfl
@[push_cast] theorem rg19 : List.range 19 = [0, 1, 2, 3, 4, 5, 6, 7, 8, 9, 10, 11, 12, 13, 14, 15, 16, 17, 18] := rfl
@[push_cast] theorem rg20 : List.range 20 = [0, 1, 2, 3, 4, 5, 6, 7, 8, 9, 10, 11, 12, 13, 14, 15, 16, 17, 18, 19] := rfl
@[push_cast] theorem rg21 : List.range 21 = [0, 1, 2, 3, 4, 5, 6, 7, 8, 9, 10, 11, 12, 13, 14, 15, 16, 17, 18, 19, 20] := rfl
@[push_cast] theorem rg22 : List.range 22 = [0, 1, 2, 3, 4, 5, 6, 7, 8, 9, 10, 11, 12, 13, 14, 15, 16, 17, 18, 19, 20, 21] := rfl
@[push_cast] theorem rg23 : List.range 23 = [0, 1, 2, 3, 4, 5, 6, 7, 8, 9, 10, 11, 12, 13, 14, 15, 16, 17, 18, 19, 20, 21, 22] := rfl
@[push_cast] theorem rg24 : List.range 24 = [0, 1, 2, 3, 4, 5, 6, 7, 8, 9, 10, 11, 12, 13, 14, 15, 16, 17, 18, 19, 20, 21, 22, 23] := rfl
@[push_cast] theorem rg25 : List.range 25 = [0, 1, 2, 3, 4, 5, 6, 7, 8, 9, 10, 11, 12, 13, 14, 15, 16, 17, 18, 19, 20, 21, 22, 23, 24] := rfl
@[push_cast] theorem rg26 : List.range 26 = [0, 1, 2, 3, 4, 5, 6, 7, 8, 9, 10, 11, 12, 13, 14, 15, 16, 17, 18, 19, 20, 21, 22, 23, 24, 25] := rfl
@[push_cast] theorem rg27 : List.range 27 = [0, 1, 2, 3, 4, 5, 6, 7, 8, 9, 10, 11, 12, 13, 14, 15, 16, 17, 18, 19, 20, 21, 22, 23, 24, 25, 26] := rfl
@[push_cast] theorem rg28 : List.range 28 = [0, 1, 2, 3, 4, 5, 6, 7, 8, 9, 10, 11, 12, 13, 14, 15, 16, 17, 18, 19, 20, 21, 22, 23, 24, 25, 26, 27] := rfl
@[push_cast] theorem rg29 : List.range 29 = [0, 1, 2, 3, 4, 5, 6, 7, 8, 9, 10, 11, 12, 13, 14, 15, 16, 17, 18, 19, 20, 21, 22, 23, 24, 25, 26, 27, 28] := rfl
@[push_cast] theorem rg30 : List.range 30 = [0, 1, 2, 3, 4, 5, 6, 7, 8, 9, 10, 11, 12, 13, 14, 15, 16, 17, 18, 19, 20, 21, 22, 23, 24, 25, 26, 27, 28, 29] := rfl
@[push_cast] theorem rg31 : List.range 31 = [0, 1, 2, 3, 4, 5, 6, 7, 8, 9, 10, 11, 12, 13, 14, 15, 16, 17, 18, 19, 20, 21, 22, 23, 24, 25, 26, 27, 28, 29, 30] := rfl
@[push_cast] theorem rg32 : List.range 32 = [0, 1, 2, 3, 4, 5, 6, 7, 8, 9, 10, 11, 12, 13, 14, 15, 16, 17, 18, 19, 20, 21, 22, 23, 24, 25, 26, 27, 28, 29, 30, 31] := rfl
@[push_cast] theorem cl2 : callable Tryd.prog 2 = true := by kernel_rfl
@[push_cast] theorem cl3 : callable Tryd.prog 3 = true := by kernel_rfl
@[push_cast] theorem cl4 : callable Tryd.prog 4 = true := by kernel_rfl
@[push_cast] theorem cl5 : callable Tryd.prog 5 = true := by kernel_rfl
@[push_cast] theorem cl6 : callable Tryd.prog 6 = true := by kernel_rfl
@[push_cast] theorem cl7 : callable Tryd.prog 7 = true := by kernel_rfl
@[push_cast] theorem cl8 : callable Tryd.prog 8 = true := by kernel_rfl
@[push_cast] theorem cl9 : callable Tryd.prog 9 = true := by kernel_rfl
@[push_cast] theorem cl10 : callable Tryd.prog 10 = true := by kernel_rfl
@[push_cast] theorem cl11 : callable Tryd.prog 11 = true := by kernel_rfl
@[push_cast] theorem cl12 : callable Tryd.prog 12 = true := by kernel_rfl
@[push_cast] theorem cl13 : callable Tryd.prog 13 = true := by kernel_rfl
@[push_cast] theorem cl14 : callable Tryd.prog 14 = true := by kernel_rfl
@[push_cast] theorem cl15 : callable Tryd.prog 15 = true := by kernel_rfl
@[push_cast] theorem cl16 : callable Tryd.prog 16 = true := by kernel_rfl
@[push_cast] theorem cl17 : callable Tryd.prog 17 = true := by kernel_rfl
@[push_cast] theorem cl18 : callable Tryd.prog 18 = true := by kernel_rfl
@[push_cast] theorem cl19 : callable Tryd.prog 19 = true := by kernel_rfl
@[push_cast] theorem cl20 : callable Tryd.prog 20 = true := by kernel_rfl
@[push_cast] theorem cl21 : callable Tryd.prog 21 = true := by kernel_rfl
@[push_cast] theorem cl22 : callable Tryd.prog 22 = true := by kernel_rfl
@[push_cast] theorem cl23 : callable Tryd.prog 23 = true := by kernel_rfl
@[push_cast] theorem cl24 : callable Tryd.prog 24 = true := by kernel_rfl
@[push_cast] theorem cl25 : callable Tryd.prog 25 = true := by kernel_rfl
@[push_cast] theorem cl26 : callable Tryd.prog 26 = true := by kernel_rfl
@[push_cast] theorem cl27 : callable Tryd.prog 27 = true := by kernel_rfl
@[push_cast] theorem cl28 : callable Tryd.prog 28 = true := by kernel_rfl
@[push_cast] theorem cl29 : callable Tryd.prog 29 = true := by kernel_rfl
@[push_cast] theorem cl30 : callable Tryd.prog 30 = true := by kernel_rfl
@[push_cast] theorem cl31 : callable Tryd.prog 31 = true := by kernel_rfl
@[push_cast] theorem cl32 : callable Tryd.prog 32 = true := by kernel_rfl
@[push_cast] theorem cl33 : callable Tryd.prog 33 = true := by kernel_rfl
@[push_cast] theorem cl34 : callable Tryd.prog 34 = true := by kernel_rfl
@[push_cast] theorem cl35 : callable Tryd.prog 35 = true := by kernel_rfl
@[push_cast] theorem cl36 : callable Tryd.prog 36 = true := by kernel_rfl
@[push_cast] theorem cl37 : callable Tryd.prog 37 = true := by kernel_rfl
@[push_cast] theorem cl38 : callable Tryd.prog 38 = true := by kernel_rfl
@[push_cast] theorem cl39 : callable Tryd.prog 39 = true := by kernel_rfl
@[push_cast] theorem cl40 : callable Tryd.prog 40 = true := by kernel_rfl
@[push_cast] theorem cl41 : callable Tryd.prog 41 = true := by kernel_rfl
@[push_cast] theorem cl42 : callable Tryd.prog 42 = true := by kernel_rfl
@[push_cast] theorem cl43 : callable Tryd.prog 43 = true := by kernel_rfl
@[push_cast] theorem cl44 : callable Tryd.prog 44 = true := by kernel_rfl
@[push_cast] theorem cl45 : callable Tryd.prog 45 = true := by kernel_rfl
@[push_cast] theorem cl46 : callable Tryd.prog 46 = true := by kernel_rfl
@[push_cast] theorem cl47 : callable Tryd.prog 47 = true := by kernel_rfl
@[push_cast] theorem cl48 : callable Tryd.prog 48 = true := by kernel_rfl
@[push_cast] theorem cl49 : callable Tryd.prog 49 = true := by kernel_rfl
@[push_cast] theorem cl50 : callable Tryd.prog 50 = true := by kernel_rfl
@[push_cast] theorem cl51 : callable Tryd.prog 51 = true := by kernel_rfl
@[push_cast] theorem cl52 : callable Tryd.prog 52 = true := by kernel_rfl
@[push_cast] theorem cl53 : callable Tryd.prog 53 = true := by kernel_rfl
@[push_cast] theorem cl54 : callable Tryd.prog 54 = true := by kernel_rfl
@[push_cast] theorem cl55 : callable Tryd.prog 55 = true := by kernel_rfl
@[push_cast] theorem cl56 : callable Tryd.prog 56 = true := by kernel_rfl
@[push_cast] theorem cl57 : callable Tryd.prog 57 = true := by kernel_rfl
@[push_cast] theorem cl58 : callable Tryd.prog 58 = true := by kernel_rfl
@[push_cast] theorem cl59 : callable Tryd.prog 59 = true := by kernel_rfl
@[push_cast] theorem cl60 : callable Tryd.prog 60 = true := by kernel_rfl
@[push_cast] theorem cl61 : callable Tryd.prog 61 = true := by kernel_rfl
@[push_cast] theorem cl62 : callable Tryd.prog 62 = true := by kernel_rfl
@[push_cast] theorem cl63 : callable Tryd.prog 63 = true := by kernel_rfl
@[push_cast] theorem cl67 : callable Tryd.prog 67 = true := by kernel_rfl
@[push_cast] theorem cl68 : callable Tryd.prog 68 = true := by kernel_rfl
@[push_cast] theorem cl69 : callable Tryd.prog 69 = true := by kernel_rfl
@[push_cast] theorem cl70 : callable Tryd.prog 70 = true := by kernel_rfl
@[push_cast] theorem cl71 : callable Tryd.prog 71 = true := by kernel_rfl
@[push_cast] theorem cl72 : callable Tryd.prog 72 = true := by kernel_rfl
@[push_cast] theorem cl73 : callable Tryd.prog 73 = true := by kernel_rfl
@[push_cast] theorem cl74 : callable Tryd.prog 74 = true := by kernel_rfl
@[push_cast] theorem cl75 : callable Tryd.prog 75 = true := by kernel_rfl
@[push_cast] theorem cl76 : callable Tryd.prog 76 = true := by kernel_rfl
@[push_cast] theorem cl80 : callable Tryd.prog 80 = true := by kernel_rfl
@[push_cast] theorem cl81 : callable Tryd.prog 81 = true := by kernel_rfl
@[push_cast] theorem cl82 : callable Tryd.prog 82 = true := by kernel_rfl
@[push_cast] theorem cl103 : callable Tryd.prog 103 = true := by kernel_rfl
@[push_cast] theorem cl125 : callable Tryd.prog 125 = true := by kernel_rfl
attribute [push_cast] Tryd.ntmps2 Tryd.results2 Tryd.ntmps3 Tryd.results3 Tryd.ntmps4 Tryd.results4 Tryd.ntmps5 Tryd.results5 Tryd.ntmps6 Tryd.results6 Tryd.ntmps7 Tryd.results7 Tryd.ntmps8 Tryd.results8 Tryd.ntmps9 Tryd.results9 Tryd.ntmps10 Tryd.results10 Tryd.ntmps11 Tryd.results11 Tryd.ntmps12 Tryd.results12 Tryd.ntmps13 Tryd.results13 Tryd.ntmps14 Tryd.results14 Tryd.ntmps15 Tryd.results15 Tryd.ntmps16 Tryd.results16 Tryd.ntmps17 Tryd.results17 Tryd.ntmps18 Tryd.results18 Tryd.ntmps19 Tryd.results19 Tryd.ntmps20 Tryd.results20 Tryd.ntmps21 Tryd.results21 Tryd.ntmps22 Tryd.results22 Tryd.ntmps23 Tryd.results23 Tryd.ntmps24 Tryd.results24 Tryd.ntmps25 Tryd.results25 Tryd.ntmps26 Tryd.results26 Tryd.ntmps27 Tryd.results27 Tryd.ntmps28 Tryd.results28 Tryd.ntmps29 Tryd.results29 Tryd.ntmps30 Tryd.results30 Tryd.ntmps31 Tryd.results31 Tryd.ntmps32 Tryd.results32 Tryd.ntmps33 Tryd.results33 Tryd.ntmps34 Tryd.results34 Tryd.ntmps35 Tryd.results35 Tryd.ntmps36 Tryd.results36 Tryd.ntmps37 Tryd.results37 Tryd.ntmps38 Tryd.results38 Tryd.ntmps39 Tryd.results39 Tryd.ntmps40 Tryd.results40 Tryd.ntmps41 Tryd.results41 Tryd.ntmps42 Tryd.results42 Tryd.ntmps43 Tryd.results43 Tryd.ntmps44 Tryd.results44 Tryd.ntmps45 Tryd.results45 Tryd.ntmps46 Tryd.results46 Tryd.ntmps47 Tryd.results47 Tryd.ntmps48 Tryd.results48 Tryd.ntmps49 Tryd.results49 Tryd.ntmps50 Tryd.results50 Tryd.ntmps51 Tryd.results51 Tryd.ntmps52 Tryd.results52 Tryd.ntmps53 Tryd.results53 Tryd.ntmps54 Tryd.results54 Tryd.ntmps55 Tryd.results55 Tryd.ntmps56 Tryd.results56 Tryd.ntmps57 Tryd.results57 Tryd.ntmps58 Tryd.results58 Tryd.ntmps59 Tryd.results59 Tryd.ntmps60 Tryd.results60 Tryd.ntmps61 Tryd.results61 Tryd.ntmps62 Tryd.results62 Tryd.ntmps63 Tryd.results63 Tryd.ntmps67 Tryd.results67 Tryd.ntmps68 Tryd.results68 Tryd.ntmps69 Tryd.results69 Tryd.ntmps70 Tryd.results70 Tryd.ntmps71 Tryd.results71 Tryd.ntmps72 Tryd.results72 Tryd.ntmps73 Tryd.results73 Tryd.ntmps74 Tryd.results74 Tryd.ntmps75 Tryd.results75 Tryd.ntmps76 Tryd.results76 Tryd.ntmps80 Tryd.results80 Tryd.ntmps81 Tryd.results81 Tryd.ntmps82 Tryd.results82 Tryd.ntmps103 Tryd.results103 Tryd.ntmps125 Tryd.results125
end Go.Proofs.YtoapdhogghbojaaDoor.Facts
/- pad: contracts. -/
set_option linter.unusedVariables false
set_option linter.unusedSimpArgs false
namespace Go.Abs
def gapN (n : Nat) : Nat := (4 - n % 4) % 4
def upN (n : Nat) : Nat := n + gapN n
theorem gap_val (n : Nat) (h : n < 2 ^ 62) : bitsV .and .i64 (IntKind.i64.wrap (0 - N n)) 3 = N (gapN n) := by
  unfold N
  have hw : IntKind.i64.wrap (0 - (n : Int)) = -(n : Int) := by rw [IntKind.wrap_i64]; omega
  rw [hw]
  have h3 : BitVec.ofInt 64 3 = 3#64 := rfl
  have hx : (BitVec.ofInt 64 (-(n : Int)) &&& 3#64).toNat = gapN n := by
    rw [BitVec.toNat_and]
    have : (3#64).toNat = 2 ^ 2 - 1 := rfl
    rw [this, Nat.and_two_pow_sub_one_eq_mod, BitVec.toNat_ofInt]
    unfold gapN
    omega
  show IntKind.i64.wrap ((BitVec.ofInt 64 (-(n : Int)) &&& BitVec.ofInt 64 3).toNat : Nat) = _
  rw [h3, hx, IntKind.wrap_i64]
  unfold gapN
  omega
theorem w64 {a : Int} (h0 : -2 ^ 63 ≤ a) (h : a < 2 ^ 63) : IntKind.i64.wrap a = a := by rw [IntKind.wrap_i64]; omega
theorem gapN_le (n : Nat) : gapN n ≤ 3 := by unfold gapN; omega
/-- a number -/
abbrev nat (n : Nat) : AV := .val (.int .i64 (N n))
attribute [push_cast] nat
/-- the sum, as Sizes has it -/
def sumUp (s : Nat) : List Nat → Nat
  | [] => s
  | n :: l => sumUp (upN s + n) l
theorem le_sumUp : ∀ (l : List Nat) (s : Nat), s ≤ sumUp s l
  | [], s => Nat.le_refl s
  | n :: l, s => by have := le_sumUp l (upN s + n); simp only [sumUp, upN] at *; omega
theorem sumUp_append (n : Nat) : ∀ (l : List Nat) (s : Nat), sumUp s (l ++ [n]) = upN (sumUp s l) + n
  | [], s => rfl
  | m :: l, s => sumUp_append n l _
theorem sumUp_take : ∀ (l : List Nat) (i : Nat) {s : Nat}, sumUp s (l.take i) ≤ sumUp s l
  | [], i, s => by simp
  | n :: l, 0, s => by simpa [sumUp] using le_sumUp (n :: l) s
  | n :: l, i + 1, s => by simp only [List.take_succ_cons, sumUp]; exact sumUp_take l i
def nats (l : List Nat) : List AV := l.map nat
@[push_cast] theorem nats_hand (ids : List Nat) (l : List Nat) : AV.handL ids (nats l) = nats l := by
  rw [AV.handL_map]; simp [nats, AV.hand]
@[push_cast] theorem nats_len (l : List Nat) : (nats l).length = l.length := by simp [nats]
theorem nats_get (l : List Nat) (i : Nat) : (nats l)[i]? = l[i]?.map nat := by simp [nats]
@[push_cast] theorem nats_pl (l : List Nat) : AV.plL (nats l) = true := by
  rw [AV.plL_iff]; intro x hx; simp only [nats, List.mem_map] at hx; obtain ⟨b, _, rfl⟩ := hx; rfl
@[push_cast] theorem nats_ids (p : Nat → Bool) (l : List Nat) : AV.idsOkL p (nats l) = true := by
  rw [AV.idsOkL_iff]; intro x hx; simp only [nats, List.mem_map] at hx; obtain ⟨b, _, rfl⟩ := hx; rfl
end Go.Abs
namespace Go.Proofs.YtoapdhogghbojaaDoor.C
open Go.Abs
theorem pad_gap (n : Nat) (h : n < 2 ^ 62) : PC Tryd.prog 81 [nat n] (nat (gapN n)) := by
  refine PC.of_bodyW (by simp only [push_cast]) Tryd.func81 rfl (by rw [Tryd.ntmps81]; simp) ?_
  refine AWp.regionW ?_
  refine AWp.regionW ?_
  refine AWp.ret ?_
  try simp only [thenQ, blockQ, noGo]
  refine bodyQ.m ?_
  rw [gap_val n h]
  first | done | exact Hand.go
theorem pad_up (n : Nat) (h : n < 2 ^ 62) : PC Tryd.prog 74 [nat n] (nat (upN n)) := by
  have hg := gapN_le n
  refine PC.of_bodyW (by simp only [push_cast]) Tryd.func74 rfl (by rw [Tryd.ntmps74]; simp) ?_
  refine AWp.regionW ?_
  refine AWp.regionM fun K1 hK1 => ?_
  refine ARun2.callM (pad_gap n h) ?_
  refine ARun2.endm (hK1 _ ?_)
  refine AWp.ret ?_
  try simp only [thenQ, blockQ, noGo]
  refine bodyQ.m ?_
  clear hK1 K1
  rw [upN]
  first | done | exact Hand.go
theorem pad_sizes1 (m n : Nat) (h : m < 2 ^ 61) (h2 : n < 2 ^ 61) : OC Tryd.prog 73 [nat n, .ptr 0 0] [.box 3 [nat m]] (.tup []) [.box 3 [nat (upN m + n)]] := by
  have hg := gapN_le m
  have hu : upN m < 2 ^ 62 := by unfold upN; omega
  refine OC.of_body [0] (by intro k hk; simp at hk; subst hk; rfl) Tryd.func73 rfl (by rw [Tryd.ntmps73]; simp) ?_
  refine AWp.regionN fun K1 hK1 => ?_
  refine ARun2.callM (pad_up m (by omega)) ?_
  refine ARun2.endm (hK1 _ ?_)
  try simp only [thenQ, blockQ, noGo]
  refine bodyQ.n ?_
  clear hK1 K1
  refine endO.m ?_ ?_
  · rfl
  · skip
    first | done | exact Hand.go
theorem pad_sizes (l : List Nat) (h : sumUp 0 l < 2 ^ 61) (hl : l.length < 2 ^ 61) : PC Tryd.prog 60 [.sl false 1 (nats l)] (nat (sumUp 0 l)) := by
  refine PC.of_bodyW (by simp only [push_cast]) Tryd.func60 rfl (by rw [Tryd.ntmps60]; simp) ?_
  refine AWp.regionW ?_
  refine AWp.regionW ?_
  refine AWp.regionW ?_
  refine AWp.seqK fun K1 hK1 => ?_
  refine AWp.regionW ?_
  refine AWp.block ?_
  refine AWp.loopK [3, 4, 8, 9] (fun (i : Nat) => [(10, nat i)]) (fun i => [.box 3 [nat (sumUp 0 (l.take i))]]) (fun i => i ≤ l.length) (fun i => l.length - i) (0) ?_ (Nat.zero_le _) ?_
  · skip
    refine Le.m 1 ?_ ?_
    · first | with_reducible rfl | (simp only [push_cast, ↓reduceIte, Nat.reduceEqDiff, Nat.reduceLT, Nat.reduceAdd, Nat.reduceSub, Nat.reduceMul, Nat.reduceLeDiff, Nat.reducePow, Int.reduceLT, Int.reduceToNat, reduceCtorEq, Int.reduceNeg, Int.reduceEq, Nat.reduceBEq, Nat.reduceBNe, Int.reduceBEq, Int.reduceBNe, String.reduceEq]; first | done | rfl | (simp (disch := omega) only [w_nat, w_add, w_addl, w_addr, w_sub, w_subl, w_mul, w_mull, w_mulr, w_u32, w_u16, w_u8, w_u32a, N_zero]; first | done | rfl))
    · first | (simp only [push_cast, ↓reduceIte, Nat.reduceEqDiff, Nat.reduceLT, Nat.reduceAdd, Nat.reduceSub, Nat.reduceMul, Nat.reduceLeDiff, Nat.reducePow, Int.reduceLT, Int.reduceToNat, reduceCtorEq, Int.reduceNeg, Int.reduceEq, Nat.reduceBEq, Nat.reduceBNe, Int.reduceBEq, Int.reduceBNe, String.reduceEq]; first | done | rfl | (simp (disch := omega) only [w_nat, w_add, w_addl, w_addr, w_sub, w_subl, w_mul, w_mull, w_mulr, w_u32, w_u16, w_u8, w_u32a, N_zero]; first | done | rfl))
  · intro i hi K2 hK2
    refine AWp.regionW ?_
    refine AWp.seqK fun K3 hK3 => ?_
    refine AWp.condLM (fun c0 => ?_) (fun c0 => ?_)
    · skip
      have hil : i < l.length := by simpa using c0
      have hs : sumUp 0 (l.take (i + 1)) = upN (sumUp 0 (l.take i)) + l[i] := by rw [List.take_succ_eq_append_getElem hil, sumUp_append]
      have hle : sumUp 0 (l.take (i + 1)) ≤ sumUp 0 l := sumUp_take l (i + 1)
      refine AWp.skip ?_
      refine hK3 _ ?_
      refine AWp.seqK fun K4 hK4 => ?_
      refine AWp.block ?_
      refine AWp.regionM fun K5 hK5 => ?_
      refine ARun2.indexM (i) (nat l[i]) ?_ ?_
      · rw [nats_get, List.getElem?_eq_getElem hil]; rfl
      refine ARun2.endm (hK5 _ ?_)
      refine AWp.regionN fun K6 hK6 => ?_
      refine ARun2.callOM [0] (pad_sizes1 (sumUp 0 (l.take i)) l[i] (by simp only [upN] at hs; omega) (by omega)) ?_
      refine ARun2.endm (hK6 _ ?_)
      refine hK4 _ ?_
      refine AWp.regionV ?_
      refine hK2 _ (i + 1) (by omega) (by omega) ?_
      refine Le.m 1 ?_ ?_
      · try simp only [push_cast, ↓reduceIte, Nat.reduceEqDiff, Nat.reduceLT, Nat.reduceAdd, Nat.reduceSub, Nat.reduceMul, Nat.reduceLeDiff, Nat.reducePow, Int.reduceLT, Int.reduceToNat, reduceCtorEq, Int.reduceNeg, Int.reduceEq, Nat.reduceBEq, Nat.reduceBNe, Int.reduceBEq, Int.reduceBNe, String.reduceEq]
        try simp (disch := omega) only [w_nat, w_add, w_addl, w_addr, w_sub, w_subl, w_mul, w_mull, w_mulr, w_u32, w_u16, w_u8, w_u32a, N_zero]
        first | done | skip
        rw [hs]
      · first | (simp only [push_cast, ↓reduceIte, Nat.reduceEqDiff, Nat.reduceLT, Nat.reduceAdd, Nat.reduceSub, Nat.reduceMul, Nat.reduceLeDiff, Nat.reducePow, Int.reduceLT, Int.reduceToNat, reduceCtorEq, Int.reduceNeg, Int.reduceEq, Nat.reduceBEq, Nat.reduceBNe, Int.reduceBEq, Int.reduceBNe, String.reduceEq]; first | done | rfl | (simp (disch := omega) only [w_nat, w_add, w_addl, w_addr, w_sub, w_subl, w_mul, w_mull, w_mulr, w_u32, w_u16, w_u8, w_u32a, N_zero]; first | done | rfl))
    · skip
      have hie : i = l.length := by simp at c0; omega
      subst hie
      refine AWp.exit ?_
      try simp only [thenQ, blockQ, noGo, reduceIte, Nat.reduceEqDiff]
      refine hK1 _ ?_
      refine AWp.regionW ?_
      refine AWp.ret ?_
      try simp only [thenQ, blockQ, noGo]
      refine bodyQ.m ?_
      clear hK3 K3 hK2 K2 hK1 K1
      rw [List.take_length]
      first | done | exact Hand.go
end Go.Proofs.YtoapdhogghbojaaDoor.C
/- wire: contracts. -/
set_option linter.unusedVariables false
set_option linter.unusedSimpArgs false
namespace Go.Proofs.YtoapdhogghbojaaDoor.C
open Go.Abs
theorem wire_right (k : Nat) : PC Tryd.prog 36 [nat k] (.val (.bool (k == 1 || k == 2 || k == 4))) := by
  refine PC.of_bodyW (by simp only [push_cast]) Tryd.func36 rfl (by rw [Tryd.ntmps36]; simp) ?_
  refine AWp.regionW ?_
  refine AWp.regionA fun K1 hK1 => ?_
  refine ARun.segm 3 fun KS hKS => ?_
  refine ARun2.endm (hKS _ ?_); clear hKS KS
  apply ARun.grpM 2 2 false 7 [0, 5]
  · intro g2 KG hKG
    refine ARun2.gom ?_
    exact ARun2.endm (hKG _ Le.grpM)
  refine ARun.segm 2 fun KS hKS => ?_
  refine ARun2.endm (hKS _ ?_); clear hKS KS
  apply ARun.grpM 2 6 false 11 [9]
  · intro g6 KG hKG
    refine ARun2.gom ?_
    exact ARun2.endm (hKG _ Le.grpM)
  refine ARun2.gom ?_
  refine ARun2.endm (hK1 _ ?_)
  refine AWp.ret ?_
  try simp only [thenQ, blockQ, noGo]
  refine bodyQ.m ?_
  clear hK1 K1
  simp only [Bool.or_assoc]
  first | done | exact Hand.go
/-- the bytes of a number, the greatest first -/
def putB (k : Nat) (x : Nat) : List UInt8 := (List.range k).reverse.map fun i => UInt8.ofNat (x / 256 ^ i)
theorem putB_len (k x : Nat) : (putB k x).length = k := by simp [putB]
theorem putB_take (k x j : Nat) (hj : j < k) : (putB k x).take (k - j) = (putB k x).take (k - (j + 1)) ++ [UInt8.ofNat (x / 256 ^ j)] := by
  have hlt : k - (j + 1) < (putB k x).length := by rw [putB_len]; omega
  rw [show k - j = (k - (j + 1)) + 1 by omega, List.take_succ_eq_append_getElem hlt]
  congr 2
  simp only [putB, List.getElem_map, List.getElem_reverse, List.getElem_range, List.length_range]
  rw [show k - 1 - (k - (j + 1)) = j by omega]
theorem put_byte (x j : Nat) (hj : j < 4) : IntKind.u8.wrap ((N x).fdiv (2 ^ min (8 * j) IntKind.u32.bits)) = N (UInt8.ofNat (x / 256 ^ j)).toNat := by
  have h2 : IntKind.u32.bits = 32 := rfl
  unfold N
  rw [h2, Nat.min_eq_left (by omega), IntKind.wrap_u8]
  have h3 : (2 : Int) ^ (8 * j) = ((256 ^ j : Nat) : Int) := by
    rw [show (256 : Nat) = 2 ^ 8 from rfl, ← Nat.pow_mul]
    simp
  rw [h3]
  have h4 : (x : Int).fdiv ((256 ^ j : Nat) : Int) = ((x / 256 ^ j : Nat) : Int) := by
    rw [Int.fdiv_eq_ediv_of_nonneg _ (Int.natCast_nonneg _)]; rfl
  rw [h4]
  simp [UInt8.toNat_ofNat']
theorem flat_len2 (k : Nat) (l : List Nat) : (l.flatMap (putB k)).length = l.length * k := by
  induction l with
  | nil => simp
  | cons x l ih => rw [List.flatMap_cons, List.length_append, putB_len, ih, List.length_cons, Nat.add_mul]; omega
theorem bys_snoc (l : List UInt8) (b : UInt8) : bys l ++ [.val (.int .u8 (N b.toNat))] = bys (l ++ [b]) := by simp [bys]
abbrev u32 (n : Nat) : AV := .val (.int .u32 (N n))
attribute [push_cast] u32
def u32s (l : List Nat) : List AV := l.map u32
@[push_cast] theorem u32s_hand (ids : List Nat) (l : List Nat) : AV.handL ids (u32s l) = u32s l := by
  rw [AV.handL_map]; simp [u32s, AV.hand]
@[push_cast] theorem u32s_len (l : List Nat) : (u32s l).length = l.length := by simp [u32s]
theorem u32s_get (l : List Nat) (i : Nat) : (u32s l)[i]? = l[i]?.map u32 := by simp [u32s]
@[push_cast] theorem u32s_pl (l : List Nat) : AV.plL (u32s l) = true := by
  rw [AV.plL_iff]; intro x hx; simp only [u32s, List.mem_map] at hx; obtain ⟨b, _, rfl⟩ := hx; rfl
@[push_cast] theorem u32s_ids (p : Nat → Bool) (l : List Nat) : AV.idsOkL p (u32s l) = true := by
  rw [AV.idsOkL_iff]; intro x hx; simp only [u32s, List.mem_map] at hx; obtain ⟨b, _, rfl⟩ := hx; rfl
theorem N_pred (j : Nat) : N (j + 1) - 1 = N j := by unfold N; omega
theorem N_pred0 (k : Nat) (h : 1 ≤ k) : N (k - 1) = N k - 1 := by unfold N; omega
theorem N_ge (j : Nat) : (0 ≤ N j - 1) = (1 ≤ j) := by rw [eq_iff_iff]; unfold N; omega
theorem wire_put (k : Nat) (l : List Nat) (hk : k = 1 ∨ k = 2 ∨ k = 4) (hl : ∀ x ∈ l, x < 2 ^ 32) (hn : l.length ≤ 2 ^ 30) :
    PC Tryd.prog 24 [nat k, .sl false 1 (u32s l)] (.sl true 1 (bys (l.flatMap (putB k)))) := by
  have hr : (k == 1 || k == 2 || k == 4) = true := by rcases hk with rfl | rfl | rfl <;> rfl
  refine PC.of_body (by simp only [push_cast]) Tryd.func24 rfl (by rw [Tryd.ntmps24]; simp) ?_
  refine AWp.regionW ?_
  refine AWp.seqK fun K1 hK1 => ?_
  refine AWp.regionM fun K2 hK2 => ?_
  refine ARun2.callM (wire_right k) ?_
  refine ARun2.endm (hK2 _ ?_)
  refine AWp.condF ?_ (by simp only [push_cast, ↓reduceIte, Nat.reduceEqDiff, Nat.reduceLT, Nat.reduceAdd, Nat.reduceSub, Nat.reduceMul, Nat.reduceLeDiff, Nat.reducePow, Int.reduceLT, Int.reduceToNat, reduceCtorEq, Int.reduceNeg, Int.reduceEq, Nat.reduceBEq, Nat.reduceBNe, Int.reduceBEq, Int.reduceBNe, String.reduceEq, hr])
  refine AWp.skip ?_
  refine hK1 _ ?_
  refine AWp.regionW ?_
  refine AWp.seqK fun K3 hK3 => ?_
  refine AWp.regionW ?_
  refine AWp.block ?_
  -- SLOTS THAT TURN AND ARE NOT TOLD: [5]
  refine AWp.nilOwn 5 5 1 (by simp only [push_cast, ↓reduceIte, Nat.reduceEqDiff, Nat.reduceLT, Nat.reduceAdd, Nat.reduceSub, Nat.reduceMul, Nat.reduceLeDiff, Nat.reducePow, Int.reduceLT, Int.reduceToNat, reduceCtorEq, Int.reduceNeg, Int.reduceEq, Nat.reduceBEq, Nat.reduceBNe, Int.reduceBEq, Int.reduceBNe, String.reduceEq]) ?_
  simp only [push_cast, ↓reduceIte, Nat.reduceEqDiff, Nat.reduceLT, Nat.reduceAdd, Nat.reduceSub, Nat.reduceMul, Nat.reduceLeDiff, Nat.reducePow, Int.reduceLT, Int.reduceToNat, reduceCtorEq, Int.reduceNeg, Int.reduceEq, Nat.reduceBEq, Nat.reduceBNe, Int.reduceBEq, Int.reduceBNe, String.reduceEq]
  refine AWp.loopK [0, 5, 12, 13] (fun (i : Nat) => [(14, nat i)]) (fun i => [.row 5 1 (bys ((l.take i).flatMap (putB k)))]) (fun i => i ≤ l.length) (fun i => l.length - i) (0) ?_ (Nat.zero_le _) ?_
  · skip
    refine Le.m 1 ?_ ?_
    · first | with_reducible rfl | (simp only [push_cast, ↓reduceIte, Nat.reduceEqDiff, Nat.reduceLT, Nat.reduceAdd, Nat.reduceSub, Nat.reduceMul, Nat.reduceLeDiff, Nat.reducePow, Int.reduceLT, Int.reduceToNat, reduceCtorEq, Int.reduceNeg, Int.reduceEq, Nat.reduceBEq, Nat.reduceBNe, Int.reduceBEq, Int.reduceBNe, String.reduceEq]; first | done | rfl | (simp (disch := omega) only [w_nat, w_add, w_addl, w_addr, w_sub, w_subl, w_mul, w_mull, w_mulr, w_u32, w_u16, w_u8, w_u32a, N_zero]; first | done | rfl))
    · first | (simp only [push_cast, ↓reduceIte, Nat.reduceEqDiff, Nat.reduceLT, Nat.reduceAdd, Nat.reduceSub, Nat.reduceMul, Nat.reduceLeDiff, Nat.reducePow, Int.reduceLT, Int.reduceToNat, reduceCtorEq, Int.reduceNeg, Int.reduceEq, Nat.reduceBEq, Nat.reduceBNe, Int.reduceBEq, Int.reduceBNe, String.reduceEq]; first | done | rfl | (simp (disch := omega) only [w_nat, w_add, w_addl, w_addr, w_sub, w_subl, w_mul, w_mull, w_mulr, w_u32, w_u16, w_u8, w_u32a, N_zero]; first | done | rfl))
  · intro i hi K4 hK4
    refine AWp.regionW ?_
    refine AWp.seqK fun K5 hK5 => ?_
    refine AWp.condLM (fun c1 => ?_) (fun c1 => ?_)
    · skip
      have hil : i < l.length := by simpa using c1
      have hx32 := hl l[i] (List.getElem_mem hil)
      generalize hxe : l[i] = x at hx32
      refine AWp.skip ?_
      refine hK5 _ ?_
      refine AWp.seqK fun K6 hK6 => ?_
      refine AWp.block ?_
      refine AWp.regionM fun K7 hK7 => ?_
      refine ARun2.indexM (i) (u32 x) ?_ ?_
      · rw [u32s_get, List.getElem?_eq_getElem hil, hxe]; rfl
      refine ARun2.endm (hK7 _ ?_)
      refine AWp.regionW ?_
      refine AWp.block ?_
      -- SLOTS THAT TURN AND ARE NOT TOLD: [5]
      refine AWp.loopK [0, 5, 7, 12, 13, 14] (fun (j : Nat) => [(8, .val (.int .i64 (N j - 1)))]) (fun j => [.row 5 1 (bys ((l.take i).flatMap (putB k) ++ (putB k x).take (k - j)))]) (fun j => j ≤ k) (fun j => j) (k) ?_ (Nat.le_refl _) ?_
      · skip
        refine Le.m 1 ?_ ?_
        · try simp only [push_cast, ↓reduceIte, Nat.reduceEqDiff, Nat.reduceLT, Nat.reduceAdd, Nat.reduceSub, Nat.reduceMul, Nat.reduceLeDiff, Nat.reducePow, Int.reduceLT, Int.reduceToNat, reduceCtorEq, Int.reduceNeg, Int.reduceEq, Nat.reduceBEq, Nat.reduceBNe, Int.reduceBEq, Int.reduceBNe, String.reduceEq]
          try simp (disch := omega) only [w_nat, w_add, w_addl, w_addr, w_sub, w_subl, w_mul, w_mull, w_mulr, w_u32, w_u16, w_u8, w_u32a, N_zero]
          first | done | skip
          simp
        · simp only [push_cast, ↓reduceIte, Nat.reduceEqDiff, Nat.reduceLT, Nat.reduceAdd, Nat.reduceSub, Nat.reduceMul, Nat.reduceLeDiff, Nat.reducePow, Int.reduceLT, Int.reduceToNat, reduceCtorEq, Int.reduceNeg, Int.reduceEq, Nat.reduceBEq, Nat.reduceBNe, Int.reduceBEq, Int.reduceBNe, String.reduceEq]
          try simp (disch := omega) only [w_nat, w_add, w_addl, w_addr, w_sub, w_subl, w_mul, w_mull, w_mulr, w_u32, w_u16, w_u8, w_u32a, N_zero]
          simp only [N_pred0 k (by omega)]
      · intro j hj K8 hK8
        refine AWp.seqK fun K9 hK9 => ?_
        refine AWp.regionW ?_
        refine AWp.condLM (fun c2 => ?_) (fun c2 => ?_)
        · skip
          have hj1 : 1 ≤ j := by have h := of_decide_eq_true c2; rwa [N_ge] at h
          obtain ⟨j, rfl⟩ : ∃ j', j = j' + 1 := ⟨j - 1, by omega⟩
          simp only [N_pred]
          refine AWp.skip ?_
          refine hK9 _ ?_
          refine AWp.seqK fun K10 hK10 => ?_
          refine AWp.block ?_
          refine AWp.regionN fun K11 hK11 => ?_
          rw [put_byte x j (by omega)]
          have hlen : ((l.take i).flatMap (putB k) ++ (putB k x).take (k - (j + 1))).length ≤ 2 ^ 33 := by
            rw [List.length_append, flat_len2, List.length_take, List.length_take, putB_len]
            have : min i l.length * k ≤ 2 ^ 30 * 4 := Nat.mul_le_mul (by omega) (by omega)
            omega
          refine ARun2.appendM ?_ ?_ ?_
          · rw [YtoapdhogghbojaaDoor.Facts.eb24, bys_len, List.length_cons, List.length_nil]; omega
          · rw [bys_len, List.length_cons, List.length_nil]; omega
          refine ARun2.endm (hK11 _ ?_)
          refine hK10 _ ?_
          refine AWp.regionV ?_
          refine hK8 _ (j) (by omega) (by omega) ?_
          refine Le.m 1 ?_ ?_
          · try simp only [push_cast, ↓reduceIte, Nat.reduceEqDiff, Nat.reduceLT, Nat.reduceAdd, Nat.reduceSub, Nat.reduceMul, Nat.reduceLeDiff, Nat.reducePow, Int.reduceLT, Int.reduceToNat, reduceCtorEq, Int.reduceNeg, Int.reduceEq, Nat.reduceBEq, Nat.reduceBNe, Int.reduceBEq, Int.reduceBNe, String.reduceEq]
            try simp (disch := omega) only [w_nat, w_add, w_addl, w_addr, w_sub, w_subl, w_mul, w_mull, w_mulr, w_u32, w_u16, w_u8, w_u32a, N_zero]
            first | done | skip
            rw [putB_take k x j (by omega), ← List.append_assoc, ← bys_snoc]
          · simp only [push_cast, ↓reduceIte, Nat.reduceEqDiff, Nat.reduceLT, Nat.reduceAdd, Nat.reduceSub, Nat.reduceMul, Nat.reduceLeDiff, Nat.reducePow, Int.reduceLT, Int.reduceToNat, reduceCtorEq, Int.reduceNeg, Int.reduceEq, Nat.reduceBEq, Nat.reduceBNe, Int.reduceBEq, Int.reduceBNe, String.reduceEq]
            try simp (disch := omega) only [w_nat, w_add, w_addl, w_addr, w_sub, w_subl, w_mul, w_mull, w_mulr, w_u32, w_u16, w_u8, w_u32a, N_zero]
            rw [show IntKind.i64.wrap (N j - 1) = N j - 1 from w64 (by unfold N; omega) (by unfold N; omega)]
        · skip
          have hj0 : j = 0 := by have h := of_decide_eq_false c2; rw [N_ge] at h; omega
          subst hj0
          refine AWp.exit ?_
          try simp only [thenQ, blockQ, noGo, reduceIte, Nat.reduceEqDiff]
          refine hK6 _ ?_
          refine AWp.regionV ?_
          refine hK4 _ (i + 1) (by omega) (by omega) ?_
          refine Le.m 1 ?_ ?_
          · try simp only [push_cast, ↓reduceIte, Nat.reduceEqDiff, Nat.reduceLT, Nat.reduceAdd, Nat.reduceSub, Nat.reduceMul, Nat.reduceLeDiff, Nat.reducePow, Int.reduceLT, Int.reduceToNat, reduceCtorEq, Int.reduceNeg, Int.reduceEq, Nat.reduceBEq, Nat.reduceBNe, Int.reduceBEq, Int.reduceBNe, String.reduceEq]
            try simp (disch := omega) only [w_nat, w_add, w_addl, w_addr, w_sub, w_subl, w_mul, w_mull, w_mulr, w_u32, w_u16, w_u8, w_u32a, N_zero]
            first | done | skip
            have hfull : (putB k x).take k = putB k x := List.take_of_length_le (by rw [putB_len]; exact Nat.le_refl _)
            rw [List.take_succ_eq_append_getElem hil, List.flatMap_append, hxe, Nat.sub_zero, hfull]; simp
          · first | (simp only [push_cast, ↓reduceIte, Nat.reduceEqDiff, Nat.reduceLT, Nat.reduceAdd, Nat.reduceSub, Nat.reduceMul, Nat.reduceLeDiff, Nat.reducePow, Int.reduceLT, Int.reduceToNat, reduceCtorEq, Int.reduceNeg, Int.reduceEq, Nat.reduceBEq, Nat.reduceBNe, Int.reduceBEq, Int.reduceBNe, String.reduceEq]; first | done | rfl | (simp (disch := omega) only [w_nat, w_add, w_addl, w_addr, w_sub, w_subl, w_mul, w_mull, w_mulr, w_u32, w_u16, w_u8, w_u32a, N_zero]; first | done | rfl))
    · skip
      have hil : i = l.length := by simp at c1; omega
      subst hil
      refine AWp.exit ?_
      try simp only [thenQ, blockQ, noGo, reduceIte, Nat.reduceEqDiff]
      refine hK3 _ ?_
      refine AWp.regionW ?_
      refine AWp.pub 0 rfl (Nat.le_refl _) ?_
      simp only [push_cast, ↓reduceIte, Nat.reduceEqDiff, Nat.reduceLT, Nat.reduceAdd, Nat.reduceSub, Nat.reduceMul, Nat.reduceLeDiff, Nat.reducePow, Int.reduceLT, Int.reduceToNat, reduceCtorEq, Int.reduceNeg, Int.reduceEq, Nat.reduceBEq, Nat.reduceBNe, Int.reduceBEq, Int.reduceBNe, String.reduceEq]
      rw [List.take_length]
      refine AWp.ret ?_
      try simp only [thenQ, blockQ, noGo]
      refine bodyQ.m ?_
      clear hK5 K5 hK4 K4 hK3 K3 hK2 K2 hK1 K1
      rfl
end Go.Proofs.YtoapdhogghbojaaDoor.C
/- wire: iterators. -/
set_option linter.unusedVariables false
set_option linter.unusedSimpArgs false
namespace Go.Proofs.YtoapdhogghbojaaDoor.C
open Go.Abs
def cdiv (n k : Nat) : Nat := (n + k - 1) / k
def chunks (k : Nat) (l : List UInt8) : List (List UInt8) := (List.range (cdiv l.length k)).map fun i => (l.drop (i * k)).take k
def chunkYs (k : Nat) (l : List UInt8) : List (List AV) := (chunks k l).map fun c => [.sl false 1 (bys c)]
theorem cdiv_lt {n k i : Nat} (hk : 0 < k) : i < cdiv n k ↔ i * k < n := by
  unfold cdiv
  rw [Nat.lt_div_iff_mul_lt hk]
  constructor <;> intro h <;> omega
theorem chunk_eq (k : Nat) (l : List UInt8) (i : Nat) : (l.take (i * k + min k (l.length - i * k))).drop (i * k) = (l.drop (i * k)).take k := by
  rw [List.drop_take, Nat.add_sub_cancel_left, ← List.length_drop]
  rcases Nat.le_total k (l.drop (i * k)).length with h | h
  · rw [Nat.min_eq_left h]
  · rw [Nat.min_eq_right h, List.take_of_length_le (Nat.le_refl _), List.take_of_length_le h]
theorem chunkYs_get {k : Nat} {l : List UInt8} {i : Nat} (h : i < cdiv l.length k) : (chunkYs k l)[i]? = some [.sl false 1 (bys ((l.drop (i * k)).take k))] := by
  simp [chunkYs, chunks, h]
theorem chunkYs_split {k : Nat} {l : List UInt8} {i : Nat} (h : i < cdiv l.length k) : chunkYs k l = (chunkYs k l).take i ++ [.sl false 1 (bys ((l.drop (i * k)).take k))] :: (chunkYs k l).drop (i + 1) := by
  obtain ⟨h1, h2⟩ := List.getElem?_eq_some_iff.1 (chunkYs_get h)
  rw [← h2, ← List.drop_eq_getElem_cons h1, List.take_append_drop]
theorem chunk_iter (k : Nat) (l : List UInt8) (hk0 : 0 < k) (hk : k < 2 ^ 63) (hl : l.length ≤ 2 ^ 40) :
    IterC Tryd.prog 35 [.ref false (.agg [.sl false 1 (bys l)]), .ref false (.agg [nat k])] (chunkYs k l) := by
  refine IterC.of_body Tryd.func35 rfl (by rw [Tryd.ntmps35]; simp) fun lb => ?_
  refine AWp.regionW ?_
  refine AWp.block ?_
  refine AWp.loopKT [0, 1, 2] (fun (i : Nat) => [(4, nat (i * k))]) (fun i => []) (fun i => (chunkYs k l).take i) (fun i => i ≤ cdiv l.length k) (fun i => cdiv l.length k - i) (0) ?_ (Nat.zero_le _) ?_
  · skip
    refine Le.m 0 ?_ ?_ ?_
    · first | with_reducible rfl | (simp only [push_cast, ↓reduceIte, Nat.reduceEqDiff, Nat.reduceLT, Nat.reduceAdd, Nat.reduceSub, Nat.reduceMul, Nat.reduceLeDiff, Nat.reducePow, Int.reduceLT, Int.reduceToNat, reduceCtorEq, Int.reduceNeg, Int.reduceEq, Nat.reduceBEq, Nat.reduceBNe, Int.reduceBEq, Int.reduceBNe, String.reduceEq]; first | done | rfl | (simp (disch := omega) only [w_nat, w_add, w_addl, w_addr, w_sub, w_subl, w_mul, w_mull, w_mulr, w_u32, w_u16, w_u8, w_u32a, N_zero]; first | done | rfl))
    · simp only [push_cast, ↓reduceIte, Nat.reduceEqDiff, Nat.reduceLT, Nat.reduceAdd, Nat.reduceSub, Nat.reduceMul, Nat.reduceLeDiff, Nat.reducePow, Int.reduceLT, Int.reduceToNat, reduceCtorEq, Int.reduceNeg, Int.reduceEq, Nat.reduceBEq, Nat.reduceBNe, Int.reduceBEq, Int.reduceBNe, String.reduceEq]
      try simp (disch := omega) only [w_nat, w_add, w_addl, w_addr, w_sub, w_subl, w_mul, w_mull, w_mulr, w_u32, w_u16, w_u8, w_u32a, N_zero]
      simp only [Nat.zero_mul]; rfl
    · exact ⟨rfl, rfl, rfl, rfl, by simp, rfl⟩
  · intro i hi K1 hK1
    refine AWp.seqK fun K2 hK2 => ?_
    refine AWp.regionW ?_
    refine AWp.condLM (fun c0 => ?_) (fun c0 => ?_)
    · skip
      have hil : i * k < l.length := of_decide_eq_true c0
      have hi' : i < cdiv l.length k := (cdiv_lt hk0).2 hil
      have hbk : i * k + k < 2 ^ 63 := by
        rcases Nat.eq_zero_or_pos i with h0 | h0
        · rw [h0, Nat.zero_mul]; omega
        · have := Nat.le_mul_of_pos_left k h0; omega
      refine AWp.skip ?_
      refine hK2 _ ?_
      refine AWp.seqK fun K3 hK3 => ?_
      refine AWp.block ?_
      refine AWp.drS [[(2, none)], [(1, none)], [(4, none)], [(14, some 1), (15, some 2)], [(16, some 3)], [(13, some 0), (17, some 4)], [(18, some 5)]] fun G hG => ?_
      refine Dr.sim ?_
      try simp only [List.cons_append, List.nil_append]
      refine Dr.sim ?_
      try simp only [List.cons_append, List.nil_append]
      refine Dr.sim ?_
      try simp only [List.cons_append, List.nil_append]
      refine Dr.sliceLo (i * k) ?_ ?_
      · rw [bys_len]; omega
      try simp only [List.cons_append, List.nil_append]
      refine Dr.sim ?_
      try simp only [List.cons_append, List.nil_append]
      refine Dr.imin ?_
      try simp only [List.cons_append, List.nil_append]
      refine Dr.sim ?_
      try simp only [List.cons_append, List.nil_append]
      refine Dr.finM (n := 7) [(5, 6)] [0, 1, 2, 4] hG YtoapdhogghbojaaDoor.Facts.mixed fun KD hKD => ?_
      refine ARun2.endm (hKD _ ?_); clear hKD KD hG G
      refine AWp.regionM fun K4 hK4 => ?_
      refine ARun2.slice3M (i * k) (i * k + min k (l.length - i * k)) ?_ ?_ ?_
      · omega
      · rw [bys_len]; omega
      rw [chunk_eq k l i]
      refine ARun2.yieldM (x := [.sl false 1 (bys ((l.drop (i * k)).take k))]) ((chunkYs k l).drop (i + 1)) (chunkYs_split hi') fun b => ?_
      refine ARun2.endm (hK4 _ ?_)
      refine AWp.condLM (fun c1 => ?_) (fun c1 => ?_)
      · skip
        have hb : b = false := by simpa using c1
        subst hb
        refine AWp.ret ?_
        try simp only [thenQ, blockQ, noGo]
        refine bodyQ.m ?_
        clear hK4 K4 hK3 K3 hK2 K2 hK1 K1
        exact ⟨fun h => (by cases h), fun _ => ⟨(chunkYs k l).drop (i + 1), (chunkYs_split hi').trans (by simp [AS.lit])⟩⟩
      · skip
        have hb : b = true := by simpa using c1
        subst hb
        refine AWp.skip ?_
        refine hK3 _ ?_
        refine AWp.regionV ?_
        refine hK1 _ (i + 1) (hi') (by omega) ?_
        refine Le.m 0 ?_ ?_ ?_
        · first | with_reducible rfl | (simp only [push_cast, ↓reduceIte, Nat.reduceEqDiff, Nat.reduceLT, Nat.reduceAdd, Nat.reduceSub, Nat.reduceMul, Nat.reduceLeDiff, Nat.reducePow, Int.reduceLT, Int.reduceToNat, reduceCtorEq, Int.reduceNeg, Int.reduceEq, Nat.reduceBEq, Nat.reduceBNe, Int.reduceBEq, Int.reduceBNe, String.reduceEq]; first | done | rfl | (simp (disch := omega) only [w_nat, w_add, w_addl, w_addr, w_sub, w_subl, w_mul, w_mull, w_mulr, w_u32, w_u16, w_u8, w_u32a, N_zero]; first | done | rfl))
        · simp only [push_cast, ↓reduceIte, Nat.reduceEqDiff, Nat.reduceLT, Nat.reduceAdd, Nat.reduceSub, Nat.reduceMul, Nat.reduceLeDiff, Nat.reducePow, Int.reduceLT, Int.reduceToNat, reduceCtorEq, Int.reduceNeg, Int.reduceEq, Nat.reduceBEq, Nat.reduceBNe, Int.reduceBEq, Int.reduceBNe, String.reduceEq]
          try simp (disch := omega) only [w_nat, w_add, w_addl, w_addr, w_sub, w_subl, w_mul, w_mull, w_mulr, w_u32, w_u16, w_u8, w_u32a, N_zero]
          rw [Nat.add_mul, Nat.one_mul]
        · refine ⟨rfl, rfl, rfl, rfl, ?_, rfl⟩
          show (chunkYs k l).take (i + 1) = (chunkYs k l).take i ++ [_]
          obtain ⟨h1, h2⟩ := List.getElem?_eq_some_iff.1 (chunkYs_get hi')
          rw [List.take_succ_eq_append_getElem h1, h2]
    · skip
      have hie : i = cdiv l.length k := by
        have h1 : ¬ i * k < l.length := of_decide_eq_false c0
        have := mt (cdiv_lt hk0 (n := l.length) (i := i)).1 h1
        omega
      subst hie
      refine AWp.exit ?_
      try simp only [thenQ, blockQ, noGo, reduceIte, Nat.reduceEqDiff]
      try simp only [thenQ, blockQ, noGo]
      refine bodyQ.n ?_
      clear hK2 K2 hK1 K1
      exact ⟨fun _ => List.take_of_length_le (by simp [chunkYs, chunks]), fun h => (by cases h)⟩
theorem chunk_c (k : Nat) (l : List UInt8) (hk : 0 < k) : PC Tryd.prog 19 [.sl false 1 (bys l), nat k] (.fn (.func 35) [] [.ref true (.agg [.sl false 1 (bys l)]), .ref true (.agg [nat k])]) := by
  refine PC.of_body (by simp only [push_cast]) Tryd.func19 rfl (by rw [Tryd.ntmps19]; simp) ?_
  refine AWp.regionW ?_
  refine AWp.seqK fun K1 hK1 => ?_
  refine AWp.regionW ?_
  refine AWp.condF ?_ (by simp only [push_cast, ↓reduceIte, Nat.reduceEqDiff, Nat.reduceLT, Nat.reduceAdd, Nat.reduceSub, Nat.reduceMul, Nat.reduceLeDiff, Nat.reducePow, Int.reduceLT, Int.reduceToNat, reduceCtorEq, Int.reduceNeg, Int.reduceEq, Nat.reduceBEq, Nat.reduceBNe, Int.reduceBEq, Int.reduceBNe, String.reduceEq]; rw [decide_eq_false (by omega)])
  refine AWp.skip ?_
  refine hK1 _ ?_
  refine AWp.regionW ?_
  refine AWp.pubBox 0 rfl (Nat.le_refl _) rfl (by simp) ?_
  refine AWp.pubBox 1 rfl (Nat.zero_le _) rfl (by simp) ?_
  simp only [push_cast, ↓reduceIte, Nat.reduceEqDiff, Nat.reduceLT, Nat.reduceAdd, Nat.reduceSub, Nat.reduceMul, Nat.reduceLeDiff, Nat.reducePow, Int.reduceLT, Int.reduceToNat, reduceCtorEq, Int.reduceNeg, Int.reduceEq, Nat.reduceBEq, Nat.reduceBNe, Int.reduceBEq, Int.reduceBNe, String.reduceEq]
  refine AWp.ret ?_
  try simp only [thenQ, blockQ, noGo]
  refine bodyQ.m ?_
  clear hK1 K1
  rfl
theorem numbers_c (k : Nat) (l : List UInt8) : PC Tryd.prog 61 [nat k, .sl false 1 (bys l)] (.fn (.func 75) [] [.ref true (.agg [.sl false 1 (bys l)]), .ref true (.agg [nat k])]) := by
  refine PC.of_body (by simp only [push_cast]) Tryd.func61 rfl (by rw [Tryd.ntmps61]; simp) ?_
  refine AWp.regionW ?_
  refine AWp.regionW ?_
  refine AWp.pubBox 0 rfl (Nat.le_refl _) rfl (by simp) ?_
  refine AWp.pubBox 1 rfl (Nat.zero_le _) rfl (by simp) ?_
  simp only [push_cast, ↓reduceIte, Nat.reduceEqDiff, Nat.reduceLT, Nat.reduceAdd, Nat.reduceSub, Nat.reduceMul, Nat.reduceLeDiff, Nat.reducePow, Int.reduceLT, Int.reduceToNat, reduceCtorEq, Int.reduceNeg, Int.reduceEq, Nat.reduceBEq, Nat.reduceBNe, Int.reduceBEq, Int.reduceBNe, String.reduceEq]
  refine AWp.ret ?_
  try simp only [thenQ, blockQ, noGo]
  refine bodyQ.m ?_
  rfl
/-- the number that bytes are, the greatest first -/
def beN (l : List UInt8) : Nat := l.foldl (fun x b => x * 256 + b.toNat) 0
/-- the numbers in bytes -/
def numsOf (k : Nat) (l : List UInt8) : List Nat := (List.range (l.length / k)).map fun i => beN ((l.drop (i * k)).take k)
def numYs (k : Nat) (l : List UInt8) : List (List AV) := (numsOf k l).map fun n => [u32 n]
theorem shl8 {x : Nat} (h : x < 2 ^ 24) : IntKind.u32.wrap (N x * 2 ^ min 8 IntKind.u32.bits) = N (x * 256) := by
  have h2 : IntKind.u32.bits = 32 := rfl
  rw [h2, IntKind.wrap_u32]
  have : (2 : Int) ^ min 8 32 = 256 := rfl
  rw [this]
  unfold N
  omega
theorem or8 {x : Nat} {b : UInt8} (h : x < 2 ^ 24) : bitsV .or .u32 (N (x * 256)) (N b.toNat) = N (x * 256 + b.toNat) := by
  have hb : b.toNat < 256 := b.toNat_lt
  unfold N
  have h1 : (BitVec.ofInt 32 ((x * 256 : Nat) : Int)).toNat = x * 256 := by rw [BitVec.toNat_ofInt]; omega
  have h2 : (BitVec.ofInt 32 (b.toNat : Int)).toNat = b.toNat := by rw [BitVec.toNat_ofInt]; omega
  show IntKind.u32.wrap ((BitVec.ofInt 32 ((x * 256 : Nat) : Int) ||| BitVec.ofInt 32 (b.toNat : Int)).toNat : Nat) = _
  rw [BitVec.toNat_or, h1, h2]
  have h3 : x * 256 ||| b.toNat = x * 256 + b.toNat := by
    have := Nat.shiftLeft_add_eq_or_of_lt (i := 8) (b := b.toNat) (by omega) x
    rw [Nat.shiftLeft_eq, show (2 : Nat) ^ 8 = 256 from rfl] at this
    omega
  rw [h3, IntKind.wrap_u32]
  omega
theorem beN_lt : ∀ (l : List UInt8), beN l < 256 ^ l.length := by
  intro l
  have key : ∀ (l : List UInt8) (x : Nat), l.foldl (fun x b => x * 256 + b.toNat) x + 1 ≤ (x + 1) * 256 ^ l.length := by
    intro l
    induction l with
    | nil => intro x; simp
    | cons b l ih =>
      intro x
      have hb : b.toNat < 256 := b.toNat_lt
      refine Nat.le_trans (ih _) ?_
      rw [List.length_cons, Nat.pow_succ, Nat.mul_comm (256 ^ l.length) 256, ← Nat.mul_assoc]
      refine Nat.mul_le_mul_right _ ?_
      show x * 256 + b.toNat + 1 ≤ (x + 1) * 256
      omega
  have := key l 0
  simp only [beN]; omega
theorem beN_snoc (l : List UInt8) (b : UInt8) : beN (l ++ [b]) = beN l * 256 + b.toNat := by simp [beN]
theorem numYs_len (k : Nat) (l : List UInt8) : (numYs k l).length = (numsOf k l).length := by simp [numYs]
theorem chunkYs_len (k : Nat) (l : List UInt8) : (chunkYs k l).length = cdiv l.length k := by simp [chunkYs, chunks]
theorem nums_len (k : Nat) (l : List UInt8) : (numsOf k l).length = l.length / k := by simp [numsOf]
theorem nums_le (k : Nat) (l : List UInt8) (hk : 0 < k) : (numsOf k l).length ≤ cdiv l.length k := by
  rw [nums_len]; exact Nat.div_le_div_right (by omega)
theorem numYs_get {k : Nat} {l : List UInt8} {i : Nat} (h : i < l.length / k) : (numYs k l)[i]? = some [u32 (beN ((l.drop (i * k)).take k))] := by
  simp [numYs, numsOf, h]
theorem numYs_split {k : Nat} {l : List UInt8} {i : Nat} (h : i < l.length / k) : numYs k l = (numYs k l).take i ++ [u32 (beN ((l.drop (i * k)).take k))] :: (numYs k l).drop (i + 1) := by
  obtain ⟨h1, h2⟩ := List.getElem?_eq_some_iff.1 (numYs_get h)
  rw [← h2, ← List.drop_eq_getElem_cons h1, List.take_append_drop]
theorem numbers_iter (k : Nat) (l : List UInt8) (hk : k = 1 ∨ k = 2 ∨ k = 4) (hl : l.length ≤ 2 ^ 40) :
    IterC Tryd.prog 75 [.ref false (.agg [.sl false 1 (bys l)]), .ref false (.agg [nat k])] (numYs k l) := by
  have hk0 : 0 < k := by omega
  refine IterC.of_body Tryd.func75 rfl (by rw [Tryd.ntmps75]; simp) fun lb => ?_
  refine AWp.regionW ?_
  refine AWp.regionM fun K1 hK1 => ?_
  refine ARun2.callM (chunk_c k l hk0) ?_
  refine ARun2.endm (hK1 _ ?_)
  refine AWp.block ?_
  refine AWp.rangeFuncM (chunk_iter k l hk0 (by omega) hl) [2, 3] (fun pre ob tr go => ob = [.box 149 [.val (.func (.yield lb) #[] #[])]] ∧ go = true ∧ tr = (numYs k l).take pre.length ∧ pre.length ≤ cdiv l.length k) (fun e ob tr go => e = .ret ∧ ob = [.box 149 [.val (.func (.yield lb) #[] #[])]] ∧ Fin (numYs k l) tr go) ?_ ?_ ?_ ?_ ?_
  · intro x hx
    simp only [chunkYs, List.mem_map] at hx
    obtain ⟨c, _, rfl⟩ := hx
    rfl
  · exact ⟨rfl, rfl, rfl, Nat.zero_le _⟩
  · rintro pre x post ob tr go hxs ⟨rfl, rfl, rfl, hle⟩
    have hpl : pre.length < cdiv l.length k := by rw [← chunkYs_len k l, hxs]; simp
    have hx : (chunkYs k l)[pre.length]? = some x := by rw [hxs]; simp
    rw [chunkYs_get hpl] at hx
    simp only [Option.some.injEq] at hx
    subst hx
    generalize hch : (l.drop (pre.length * k)).take k = c at hxs ⊢
    have hcl : c.length ≤ k := by rw [← hch]; exact List.length_take_le _ _
    have hcl2 : c.length = min k (l.length - pre.length * k) := by rw [← hch, List.length_take, List.length_drop]
    refine AWp.regionV ?_
    change AWp _ _ _ _
    refine AWp.block ?_
    refine AWp.regionW ?_
    refine AWp.seqK fun K2 hK2 => ?_
    refine AWp.regionW ?_
    refine AWp.block ?_
    refine AWp.loopK0 [2, 3, 4, 12, 13] (fun (j : Nat) => [(14, nat j), (5, u32 (beN (c.take j)))]) (fun j => j ≤ c.length) (fun j => c.length - j) (0) ?_ (Nat.zero_le _) ?_
    · skip
      refine Le.m 1 ?_ ?_
      · first | with_reducible rfl | (simp only [push_cast, ↓reduceIte, Nat.reduceEqDiff, Nat.reduceLT, Nat.reduceAdd, Nat.reduceSub, Nat.reduceMul, Nat.reduceLeDiff, Nat.reducePow, Int.reduceLT, Int.reduceToNat, reduceCtorEq, Int.reduceNeg, Int.reduceEq, Nat.reduceBEq, Nat.reduceBNe, Int.reduceBEq, Int.reduceBNe, String.reduceEq]; first | done | rfl | (simp (disch := omega) only [w_nat, w_add, w_addl, w_addr, w_sub, w_subl, w_mul, w_mull, w_mulr, w_u32, w_u16, w_u8, w_u32a, N_zero]; first | done | rfl))
      · first | (simp only [push_cast, ↓reduceIte, Nat.reduceEqDiff, Nat.reduceLT, Nat.reduceAdd, Nat.reduceSub, Nat.reduceMul, Nat.reduceLeDiff, Nat.reducePow, Int.reduceLT, Int.reduceToNat, reduceCtorEq, Int.reduceNeg, Int.reduceEq, Nat.reduceBEq, Nat.reduceBNe, Int.reduceBEq, Int.reduceBNe, String.reduceEq]; first | done | rfl | (simp (disch := omega) only [w_nat, w_add, w_addl, w_addr, w_sub, w_subl, w_mul, w_mull, w_mulr, w_u32, w_u16, w_u8, w_u32a, N_zero]; first | done | rfl))
    · intro j hj K3 hK3
      refine AWp.regionW ?_
      refine AWp.seqK fun K4 hK4 => ?_
      refine AWp.condLM (fun c0 => ?_) (fun c0 => ?_)
      · skip
        have hjl : j < c.length := of_decide_eq_true c0
        have hx24 : beN (c.take j) < 2 ^ 24 := by
          have h1 := beN_lt (c.take j)
          rw [List.length_take, Nat.min_eq_left (by omega)] at h1
          have h2 : 256 ^ j ≤ 256 ^ 3 := Nat.pow_le_pow_right (by omega) (by omega)
          omega
        have hsn : beN (c.take (j + 1)) = beN (c.take j) * 256 + c[j].toNat := by rw [List.take_succ_eq_append_getElem hjl, beN_snoc]
        refine AWp.skip ?_
        refine hK4 _ ?_
        refine AWp.seqK fun K5 hK5 => ?_
        refine AWp.block ?_
        refine AWp.regionM fun K6 hK6 => ?_
        refine ARun2.indexM (j) (.val (.int .u8 (N c[j].toNat))) ?_ ?_
        · rw [bys_get, List.getElem?_eq_getElem hjl]; rfl
        refine ARun2.endm (hK6 _ ?_)
        refine AWp.regionV ?_
        rw [shl8 hx24, or8 hx24, ← hsn]
        refine hK5 _ ?_
        refine AWp.regionV ?_
        refine hK3 _ (j + 1) (by omega) (by omega) ?_
        refine Le.m 1 ?_ ?_
        · first | with_reducible rfl | (simp only [push_cast, ↓reduceIte, Nat.reduceEqDiff, Nat.reduceLT, Nat.reduceAdd, Nat.reduceSub, Nat.reduceMul, Nat.reduceLeDiff, Nat.reducePow, Int.reduceLT, Int.reduceToNat, reduceCtorEq, Int.reduceNeg, Int.reduceEq, Nat.reduceBEq, Nat.reduceBNe, Int.reduceBEq, Int.reduceBNe, String.reduceEq]; first | done | rfl | (simp (disch := omega) only [w_nat, w_add, w_addl, w_addr, w_sub, w_subl, w_mul, w_mull, w_mulr, w_u32, w_u16, w_u8, w_u32a, N_zero]; first | done | rfl))
        · first | (simp only [push_cast, ↓reduceIte, Nat.reduceEqDiff, Nat.reduceLT, Nat.reduceAdd, Nat.reduceSub, Nat.reduceMul, Nat.reduceLeDiff, Nat.reducePow, Int.reduceLT, Int.reduceToNat, reduceCtorEq, Int.reduceNeg, Int.reduceEq, Nat.reduceBEq, Nat.reduceBNe, Int.reduceBEq, Int.reduceBNe, String.reduceEq]; first | done | rfl | (simp (disch := omega) only [w_nat, w_add, w_addl, w_addr, w_sub, w_subl, w_mul, w_mull, w_mulr, w_u32, w_u16, w_u8, w_u32a, N_zero]; first | done | rfl))
      · skip
        have hjc : j = c.length := by have h := of_decide_eq_false c0; omega
        subst hjc
        refine AWp.exit ?_
        try simp only [thenQ, blockQ, noGo, reduceIte, Nat.reduceEqDiff]
        refine hK2 _ ?_
        cases hcd : decide (c.length < k) with
        | true =>
          have hlt : c.length < k := of_decide_eq_true hcd
          refine AWp.regionS fun K hK => ?_
          simp only [push_cast, ↓reduceIte, Nat.reduceEqDiff, Nat.reduceLT, Nat.reduceAdd, Nat.reduceSub, Nat.reduceMul, Nat.reduceLeDiff, Nat.reducePow, Int.reduceLT, Int.reduceToNat, reduceCtorEq, Int.reduceNeg, Int.reduceEq, Nat.reduceBEq, Nat.reduceBNe, Int.reduceBEq, Int.reduceBNe, String.reduceEq, hcd, List.take_length]
          refine ARun2.nil (hK _ ?_)
          refine AWp.condT ?_
          refine AWp.ret ⟨_, Le.refl _, rfl, rfl, fun _ => ?_, fun h => by cases h⟩
          refine List.take_of_length_le ?_
          rw [numYs_len, nums_len]
          have : ¬ pre.length < l.length / k := by
            rw [Nat.lt_div_iff_mul_lt hk0]
            omega
          omega
        | false =>
          have hfull : c.length = k := by have := of_decide_eq_false hcd; omega
          have hid : pre.length < l.length / k := by
            rw [Nat.lt_div_iff_mul_lt hk0]
            omega
          have hsp := numYs_split hid
          rw [hch] at hsp
          refine AWp.regionS fun K hK => ?_
          simp only [push_cast, ↓reduceIte, Nat.reduceEqDiff, Nat.reduceLT, Nat.reduceAdd, Nat.reduceSub, Nat.reduceMul, Nat.reduceLeDiff, Nat.reducePow, Int.reduceLT, Int.reduceToNat, reduceCtorEq, Int.reduceNeg, Int.reduceEq, Nat.reduceBEq, Nat.reduceBNe, Int.reduceBEq, Int.reduceBNe, String.reduceEq, hcd, List.take_length]
          refine ARun2.yieldM (x := [u32 (beN c)]) ((numYs k l).drop (pre.length + 1)) hsp fun b => ?_
          refine ARun2.nil (hK _ ?_)
          refine AWp.condM (fun hc2 => ?_) (fun hc2 => ?_)
          · refine AWp.ret ⟨_, Le.refl _, rfl, rfl, fun h => ?_, fun _ => ?_⟩
            · cases b <;> simp at hc2 h
            · exact ⟨(numYs k l).drop (pre.length + 1), hsp.trans (by rw [List.append_assoc]; rfl)⟩
          · have hb : b = true := by cases b <;> simp at hc2 ⊢
            subst hb
            refine AWp.skip ⟨_, Le.refl _, rfl, rfl, ?_, ?_⟩
            · rw [List.length_append, List.length_cons, List.length_nil]
              obtain ⟨h1, h2⟩ := List.getElem?_eq_some_iff.1 (numYs_get hid)
              rw [hch] at h2
              rw [List.take_succ_eq_append_getElem h1, h2]
            · rw [List.length_append, List.length_cons, List.length_nil]; omega
  · rintro ob tr go df ⟨rfl, rfl, rfl, _⟩
    try simp only [thenQ, blockQ, noGo]
    refine bodyQ.n ?_
    clear hK1 K1
    exact ⟨fun _ => List.take_of_length_le (by rw [numYs_len, chunkYs_len]; exact nums_le k l hk0), fun h => by simp at h⟩
  · rintro e ob tr go df ⟨rfl, rfl, hfin⟩
    exact ⟨_, rfl, hfin⟩
end Go.Proofs.YtoapdhogghbojaaDoor.C
/- wire: Collect, Numbers. -/
set_option linter.unusedVariables false
set_option linter.unusedSimpArgs false
set_option maxRecDepth 100000
namespace Go.Proofs.YtoapdhogghbojaaDoor.C
open Go.Abs
theorem u32s_snoc (l : List Nat) (n : Nat) : u32s l ++ [.val (.int .u32 (N n))] = u32s (l ++ [n]) := by simp [u32s]
theorem numYs_ps (l : List Nat) : ∀ x ∈ (l.map fun n => [u32 n]), x.length = 1 := by
  intro x hx
  simp only [List.mem_map] at hx
  obtain ⟨n, _, rfl⟩ := hx
  rfl
theorem appendSeq_c {f : FuncId} {cap cap' : List AV} {l : List Nat} (hl : l.length ≤ 2 ^ 40) (hit : IterC Tryd.prog f cap' (l.map fun n => [u32 n])) (hc : callable Tryd.prog f = true) (hcap : HandL [] cap cap') (hcl : AV.idsOkL (fun _ => false) cap = true) :
    PC Tryd.prog 76 [.val (.slice none 0 0), .fn (.func f) [] cap] (.sl true 1 (u32s l)) := by
  refine PC.of_body (by simp only [push_cast]) Tryd.func76 rfl (by rw [Tryd.ntmps76]; simp) ?_
  refine AWp.regionW ?_
  refine AWp.seqK fun K1 hK1 => ?_
  refine AWp.regionW ?_
  refine AWp.block ?_
  refine AWp.nilBox 0 0 22 1 rfl rfl ?_
  refine AWp.rangeFuncM (hit) [2] (fun pre ob tr go => ob = [.box 76 [.own 1], .row 22 1 (u32s (l.take pre.length))]) (fun _ _ _ _ => False) ?_ ?_ ?_ ?_ ?_
  · exact numYs_ps l
  · rfl
  · rintro pre x post ob tr go hxs rfl
    have hpl : pre.length < l.length := by
      have := congrArg List.length hxs
      simp at this; omega
    have hx : (l.map fun n => [u32 n])[pre.length]? = some x := by rw [hxs]; simp
    simp only [List.getElem?_map, List.getElem?_eq_getElem hpl, Option.map_some, Option.some.injEq] at hx
    subst hx
    refine AWp.regionV ?_
    change AWp _ _ _ _
    refine AWp.block ?_
    refine AWp.regionN fun K2 hK2 => ?_
    refine ARun2.appendM ?_ ?_ ?_
    · rw [YtoapdhogghbojaaDoor.Facts.eb76, u32s_len, List.length_take, List.length_cons, List.length_nil]; omega
    · rw [u32s_len, List.length_take, List.length_cons, List.length_nil]; omega
    refine ARun2.endm (hK2 _ ?_)
    refine ⟨_, Le.refl _, ?_⟩
    have e : u32s (l.take (pre ++ [[u32 l[pre.length]]]).length) = u32s (l.take pre.length) ++ [u32 l[pre.length]] := by
      rw [List.length_append, List.length_cons, List.length_nil, List.take_succ_eq_append_getElem hpl, ← u32s_snoc]
    exact (congrArg (fun z => [Ob.box 76 [AV.own 1], Ob.row 22 1 z]) e).symm
  · rintro ob tr go df rfl
    refine hK1 _ ?_
    refine AWp.regionW ?_
    refine AWp.pub 1 rfl (Nat.zero_le _) ?_
    simp only [push_cast, ↓reduceIte, Nat.reduceEqDiff, Nat.reduceLT, Nat.reduceAdd, Nat.reduceSub, Nat.reduceMul, Nat.reduceLeDiff, Nat.reducePow, Int.reduceLT, Int.reduceToNat, reduceCtorEq, Int.reduceNeg, Int.reduceEq, Nat.reduceBEq, Nat.reduceBNe, Int.reduceBEq, Int.reduceBNe, String.reduceEq]
    rw [List.take_length]
    refine AWp.ret ?_
    try simp only [thenQ, blockQ, noGo]
    refine bodyQ.m ?_
    clear hK1 K1
    rfl
  · rintro e ob tr go df h
    exact h.elim
theorem collect_c {f : FuncId} {cap cap' : List AV} {l : List Nat} (hl : l.length ≤ 2 ^ 40) (hit : IterC Tryd.prog f cap' (l.map fun n => [u32 n])) (hc : callable Tryd.prog f = true) (hcap : HandL [] cap cap') (hcl : AV.idsOkL (fun _ => false) cap = true) (hx : HandL [] cap cap) :
    PC Tryd.prog 63 [.fn (.func f) [] cap] (.sl true 1 (u32s l)) := by
  refine PC.of_body (by simp only [push_cast]) Tryd.func63 rfl (by rw [Tryd.ntmps63]; simp) ?_
  refine AWp.regionW ?_
  refine AWp.regionM fun K1 hK1 => ?_
  refine ARun2.callM (appendSeq_c hl hit hc hcap hcl) ?_
  refine ARun2.endm (hK1 _ ?_)
  refine AWp.ret ?_
  try simp only [thenQ, blockQ, noGo]
  refine bodyQ.m ?_
  clear hK1 K1
  rfl
theorem numbers_n (k : Nat) (l : List UInt8) (hk : k = 1 ∨ k = 2 ∨ k = 4) (hl : l.length ≤ 2 ^ 40) (hm : l.length % k = 0) :
    PC Tryd.prog 57 [nat k, .sl false 1 (bys l)] (.sl true 1 (u32s (numsOf k l))) := by
  have hk0 : 0 < k := by omega
  have hr : (k == 1 || k == 2 || k == 4) = true := by rcases hk with rfl | rfl | rfl <;> rfl
  refine PC.of_body (by simp only [push_cast]) Tryd.func57 rfl (by rw [Tryd.ntmps57]; simp) ?_
  refine AWp.regionW ?_
  refine AWp.seqK fun K1 hK1 => ?_
  refine AWp.regionM fun K2 hK2 => ?_
  refine ARun2.callM (hr ▸ wire_right k) ?_
  refine ARun2.endm (hK2 _ ?_)
  refine AWp.condF ?_ (by simp only [push_cast, ↓reduceIte, Nat.reduceEqDiff, Nat.reduceLT, Nat.reduceAdd, Nat.reduceSub, Nat.reduceMul, Nat.reduceLeDiff, Nat.reducePow, Int.reduceLT, Int.reduceToNat, reduceCtorEq, Int.reduceNeg, Int.reduceEq, Nat.reduceBEq, Nat.reduceBNe, Int.reduceBEq, Int.reduceBNe, String.reduceEq, hm])
  refine AWp.skip ?_
  refine hK1 _ ?_
  refine AWp.regionM fun K3 hK3 => ?_
  refine ARun2.callM (numbers_c k l) ?_
  refine ARun2.callM (collect_c (l := numsOf k l) (cap := [.ref false (.agg [.sl false 1 (bys l)]), .ref false (.agg [nat k])]) (by rw [nums_len]; exact Nat.le_trans (Nat.div_le_self _ _) hl) (numbers_iter k l hk hl) rfl Hand.goL (by simp only [push_cast]) Hand.goL) ?_
  refine ARun2.endm (hK3 _ ?_)
  refine AWp.ret ?_
  try simp only [thenQ, blockQ, noGo]
  refine bodyQ.m ?_
  clear hK3 K3 hK2 K2 hK1 K1
  rfl
end Go.Proofs.YtoapdhogghbojaaDoor.C
/- slices.Clone, bytes.Equal. -/
set_option linter.unusedVariables false
set_option linter.unusedSimpArgs false
namespace Go.Proofs.YtoapdhogghbojaaDoor.C
open Go.Abs
theorem bys_cons (b : UInt8) (l : List UInt8) : bys (b :: l) = .val (.int .u8 (N b.toNat)) :: bys l := rfl
theorem clone_c (l : List UInt8) (hl : l.length ≤ 2 ^ 40) : PC Tryd.prog 20 [.sl false 1 (bys l)] (.sl true 1 (bys l)) := by
  refine PC.of_body (by simp only [push_cast]) Tryd.func20 rfl (by rw [Tryd.ntmps20]; simp) ?_
  refine AWp.regionS fun K hK => ?_; simp only [push_cast, ↓reduceIte, Nat.reduceEqDiff, Nat.reduceLT, Nat.reduceAdd, Nat.reduceSub, Nat.reduceMul, Nat.reduceLeDiff, Nat.reducePow, Int.reduceLT, Int.reduceToNat, reduceCtorEq, Int.reduceNeg, Int.reduceEq, Nat.reduceBEq, Nat.reduceBNe, Int.reduceBEq, Int.reduceBNe, String.reduceEq]
  refine ARun2.nil (hK _ ?_); clear hK K
  refine AWp.seqK fun KA hKA => ?_
  cases l with
  | nil =>
    refine AWp.regionS fun K hK => ?_; simp only [push_cast, ↓reduceIte, Nat.reduceEqDiff, Nat.reduceLT, Nat.reduceAdd, Nat.reduceSub, Nat.reduceMul, Nat.reduceLeDiff, Nat.reducePow, Int.reduceLT, Int.reduceToNat, reduceCtorEq, Int.reduceNeg, Int.reduceEq, Nat.reduceBEq, Nat.reduceBNe, Int.reduceBEq, Int.reduceBNe, String.reduceEq]
    refine ARun2.nilSl rfl rfl (.inl rfl) rfl YtoapdhogghbojaaDoor.Facts.nk24 (by rw [YtoapdhogghbojaaDoor.Facts.nk24]; rfl) (fun b hb => ?_)
    refine ARun2.go ?_; simp only [push_cast, ↓reduceIte, Nat.reduceEqDiff, Nat.reduceLT, Nat.reduceAdd, Nat.reduceSub, Nat.reduceMul, Nat.reduceLeDiff, Nat.reducePow, Int.reduceLT, Int.reduceToNat, reduceCtorEq, Int.reduceNeg, Int.reduceEq, Nat.reduceBEq, Nat.reduceBNe, Int.reduceBEq, Int.reduceBNe, String.reduceEq]
    refine ARun2.nil (hK _ ?_); clear hK K
    refine AWp.cond (by first | (simp only [push_cast, ↓reduceIte, Nat.reduceEqDiff, Nat.reduceLT, Nat.reduceAdd, Nat.reduceSub, Nat.reduceMul, Nat.reduceLeDiff, Nat.reducePow, Int.reduceLT, Int.reduceToNat, reduceCtorEq, Int.reduceNeg, Int.reduceEq, Nat.reduceBEq, Nat.reduceBNe, Int.reduceBEq, Int.reduceBNe, String.reduceEq]; done) | (simp only [push_cast, ↓reduceIte, Nat.reduceEqDiff, Nat.reduceLT, Nat.reduceAdd, Nat.reduceSub, Nat.reduceMul, Nat.reduceLeDiff, Nat.reducePow, Int.reduceLT, Int.reduceToNat, reduceCtorEq, Int.reduceNeg, Int.reduceEq, Nat.reduceBEq, Nat.reduceBNe, Int.reduceBEq, Int.reduceBNe, String.reduceEq]; rfl)) (fun hc => ?_) (fun hc => ?_)
    · refine AWp.regionS fun K hK => ?_; simp only [push_cast, ↓reduceIte, Nat.reduceEqDiff, Nat.reduceLT, Nat.reduceAdd, Nat.reduceSub, Nat.reduceMul, Nat.reduceLeDiff, Nat.reducePow, Int.reduceLT, Int.reduceToNat, reduceCtorEq, Int.reduceNeg, Int.reduceEq, Nat.reduceBEq, Nat.reduceBNe, Int.reduceBEq, Int.reduceBNe, String.reduceEq]
      refine ARun2.nil (hK _ ?_); clear hK K
      refine AWp.nilOwn 2 5 1 (by simp only [push_cast, ↓reduceIte, Nat.reduceEqDiff, Nat.reduceLT, Nat.reduceAdd, Nat.reduceSub, Nat.reduceMul, Nat.reduceLeDiff, Nat.reducePow, Int.reduceLT, Int.reduceToNat, reduceCtorEq, Int.reduceNeg, Int.reduceEq, Nat.reduceBEq, Nat.reduceBNe, Int.reduceBEq, Int.reduceBNe, String.reduceEq]) ?_
      simp only [push_cast, ↓reduceIte, Nat.reduceEqDiff, Nat.reduceLT, Nat.reduceAdd, Nat.reduceSub, Nat.reduceMul, Nat.reduceLeDiff, Nat.reducePow, Int.reduceLT, Int.reduceToNat, reduceCtorEq, Int.reduceNeg, Int.reduceEq, Nat.reduceBEq, Nat.reduceBNe, Int.reduceBEq, Int.reduceBNe, String.reduceEq]
      refine AWp.pub 0 rfl (Nat.le_refl _) ?_
      refine AWp.ret ⟨_, rfl, ?_⟩
      simp only [push_cast, ↓reduceIte, Nat.reduceEqDiff, Nat.reduceLT, Nat.reduceAdd, Nat.reduceSub, Nat.reduceMul, Nat.reduceLeDiff, Nat.reducePow, Int.reduceLT, Int.reduceToNat, reduceCtorEq, Int.reduceNeg, Int.reduceEq, Nat.reduceBEq, Nat.reduceBNe, Int.reduceBEq, Int.reduceBNe, String.reduceEq]
    · refine AWp.skip (hKA _ ?_)
      refine AWp.regionS fun K hK => ?_; simp only [push_cast, ↓reduceIte, Nat.reduceEqDiff, Nat.reduceLT, Nat.reduceAdd, Nat.reduceSub, Nat.reduceMul, Nat.reduceLeDiff, Nat.reducePow, Int.reduceLT, Int.reduceToNat, reduceCtorEq, Int.reduceNeg, Int.reduceEq, Nat.reduceBEq, Nat.reduceBNe, Int.reduceBEq, Int.reduceBNe, String.reduceEq]
      refine ARun2.buildOwn (e := 5) rfl rfl YtoapdhogghbojaaDoor.Facts.es24 YtoapdhogghbojaaDoor.Facts.el24 rfl (fun p hp => by simp at hp) (by decide) ?_
      refine ARun2.go ?_; simp only [push_cast, ↓reduceIte, Nat.reduceEqDiff, Nat.reduceLT, Nat.reduceAdd, Nat.reduceSub, Nat.reduceMul, Nat.reduceLeDiff, Nat.reducePow, Int.reduceLT, Int.reduceToNat, reduceCtorEq, Int.reduceNeg, Int.reduceEq, Nat.reduceBEq, Nat.reduceBNe, Int.reduceBEq, Int.reduceBNe, String.reduceEq]
      refine ARun2.append (xs := []) rfl rfl (by first | (simp only [push_cast, ↓reduceIte, Nat.reduceEqDiff, Nat.reduceLT, Nat.reduceAdd, Nat.reduceSub, Nat.reduceMul, Nat.reduceLeDiff, Nat.reducePow, Int.reduceLT, Int.reduceToNat, reduceCtorEq, Int.reduceNeg, Int.reduceEq, Nat.reduceBEq, Nat.reduceBNe, Int.reduceBEq, Int.reduceBNe, String.reduceEq]; done) | (simp only [push_cast, ↓reduceIte, Nat.reduceEqDiff, Nat.reduceLT, Nat.reduceAdd, Nat.reduceSub, Nat.reduceMul, Nat.reduceLeDiff, Nat.reducePow, Int.reduceLT, Int.reduceToNat, reduceCtorEq, Int.reduceNeg, Int.reduceEq, Nat.reduceBEq, Nat.reduceBNe, Int.reduceBEq, Int.reduceBNe, String.reduceEq]; rfl)) rfl (by first | (simp only [push_cast, ↓reduceIte, Nat.reduceEqDiff, Nat.reduceLT, Nat.reduceAdd, Nat.reduceSub, Nat.reduceMul, Nat.reduceLeDiff, Nat.reducePow, Int.reduceLT, Int.reduceToNat, reduceCtorEq, Int.reduceNeg, Int.reduceEq, Nat.reduceBEq, Nat.reduceBNe, Int.reduceBEq, Int.reduceBNe, String.reduceEq]; done) | (simp only [push_cast, ↓reduceIte, Nat.reduceEqDiff, Nat.reduceLT, Nat.reduceAdd, Nat.reduceSub, Nat.reduceMul, Nat.reduceLeDiff, Nat.reducePow, Int.reduceLT, Int.reduceToNat, reduceCtorEq, Int.reduceNeg, Int.reduceEq, Nat.reduceBEq, Nat.reduceBNe, Int.reduceBEq, Int.reduceBNe, String.reduceEq]; rfl)) (by first | (simp only [push_cast, ↓reduceIte, Nat.reduceEqDiff, Nat.reduceLT, Nat.reduceAdd, Nat.reduceSub, Nat.reduceMul, Nat.reduceLeDiff, Nat.reducePow, Int.reduceLT, Int.reduceToNat, reduceCtorEq, Int.reduceNeg, Int.reduceEq, Nat.reduceBEq, Nat.reduceBNe, Int.reduceBEq, Int.reduceBNe, String.reduceEq]; done) | (simp only [push_cast, ↓reduceIte, Nat.reduceEqDiff, Nat.reduceLT, Nat.reduceAdd, Nat.reduceSub, Nat.reduceMul, Nat.reduceLeDiff, Nat.reducePow, Int.reduceLT, Int.reduceToNat, reduceCtorEq, Int.reduceNeg, Int.reduceEq, Nat.reduceBEq, Nat.reduceBNe, Int.reduceBEq, Int.reduceBNe, String.reduceEq]; rfl)) (.inl (by first | (simp only [push_cast, ↓reduceIte, Nat.reduceEqDiff, Nat.reduceLT, Nat.reduceAdd, Nat.reduceSub, Nat.reduceMul, Nat.reduceLeDiff, Nat.reducePow, Int.reduceLT, Int.reduceToNat, reduceCtorEq, Int.reduceNeg, Int.reduceEq, Nat.reduceBEq, Nat.reduceBNe, Int.reduceBEq, Int.reduceBNe, String.reduceEq]; done) | (simp only [push_cast, ↓reduceIte, Nat.reduceEqDiff, Nat.reduceLT, Nat.reduceAdd, Nat.reduceSub, Nat.reduceMul, Nat.reduceLeDiff, Nat.reducePow, Int.reduceLT, Int.reduceToNat, reduceCtorEq, Int.reduceNeg, Int.reduceEq, Nat.reduceBEq, Nat.reduceBNe, Int.reduceBEq, Int.reduceBNe, String.reduceEq]; rfl))) (by first | (simp only [push_cast, ↓reduceIte, Nat.reduceEqDiff, Nat.reduceLT, Nat.reduceAdd, Nat.reduceSub, Nat.reduceMul, Nat.reduceLeDiff, Nat.reducePow, Int.reduceLT, Int.reduceToNat, reduceCtorEq, Int.reduceNeg, Int.reduceEq, Nat.reduceBEq, Nat.reduceBNe, Int.reduceBEq, Int.reduceBNe, String.reduceEq]; done) | (simp only [push_cast, ↓reduceIte, Nat.reduceEqDiff, Nat.reduceLT, Nat.reduceAdd, Nat.reduceSub, Nat.reduceMul, Nat.reduceLeDiff, Nat.reducePow, Int.reduceLT, Int.reduceToNat, reduceCtorEq, Int.reduceNeg, Int.reduceEq, Nat.reduceBEq, Nat.reduceBNe, Int.reduceBEq, Int.reduceBNe, String.reduceEq]; rfl)) ?_ ?_ rfl (by first | (simp only [push_cast, ↓reduceIte, Nat.reduceEqDiff, Nat.reduceLT, Nat.reduceAdd, Nat.reduceSub, Nat.reduceMul, Nat.reduceLeDiff, Nat.reducePow, Int.reduceLT, Int.reduceToNat, reduceCtorEq, Int.reduceNeg, Int.reduceEq, Nat.reduceBEq, Nat.reduceBNe, Int.reduceBEq, Int.reduceBNe, String.reduceEq]; done) | (simp only [push_cast, ↓reduceIte, Nat.reduceEqDiff, Nat.reduceLT, Nat.reduceAdd, Nat.reduceSub, Nat.reduceMul, Nat.reduceLeDiff, Nat.reducePow, Int.reduceLT, Int.reduceToNat, reduceCtorEq, Int.reduceNeg, Int.reduceEq, Nat.reduceBEq, Nat.reduceBNe, Int.reduceBEq, Int.reduceBNe, String.reduceEq]; rfl)) ?_
      · rw [YtoapdhogghbojaaDoor.Facts.eb24]; simp only [List.length_nil]; simp at hl; omega
      · simp only [List.length_nil]; simp at hl; omega
      rw [List.nil_append]
      simp only [push_cast, ↓reduceIte, Nat.reduceEqDiff, Nat.reduceLT, Nat.reduceAdd, Nat.reduceSub, Nat.reduceMul, Nat.reduceLeDiff, Nat.reducePow, Int.reduceLT, Int.reduceToNat, reduceCtorEq, Int.reduceNeg, Int.reduceEq, Nat.reduceBEq, Nat.reduceBNe, Int.reduceBEq, Int.reduceBNe, String.reduceEq]
      refine ARun2.nil (hK _ ?_); clear hK K
      refine AWp.pub 0 rfl (Nat.le_refl _) ?_
      refine AWp.ret ⟨_, rfl, ?_⟩
      simp only [push_cast, ↓reduceIte, Nat.reduceEqDiff, Nat.reduceLT, Nat.reduceAdd, Nat.reduceSub, Nat.reduceMul, Nat.reduceLeDiff, Nat.reducePow, Int.reduceLT, Int.reduceToNat, reduceCtorEq, Int.reduceNeg, Int.reduceEq, Nat.reduceBEq, Nat.reduceBNe, Int.reduceBEq, Int.reduceBNe, String.reduceEq]
  | cons c l =>
    refine AWp.regionS fun K hK => ?_
    simp only [push_cast, ↓reduceIte, Nat.reduceEqDiff, Nat.reduceLT, Nat.reduceAdd, Nat.reduceSub, Nat.reduceMul, Nat.reduceLeDiff, Nat.reducePow, Int.reduceLT, Int.reduceToNat, reduceCtorEq, Int.reduceNeg, Int.reduceEq, Nat.reduceBEq, Nat.reduceBNe, Int.reduceBEq, Int.reduceBNe, String.reduceEq, bys_cons]
    refine ARun2.nil (hK _ ?_); clear hK K
    refine AWp.cond (t := false) (by first | (simp only [push_cast, ↓reduceIte, Nat.reduceEqDiff, Nat.reduceLT, Nat.reduceAdd, Nat.reduceSub, Nat.reduceMul, Nat.reduceLeDiff, Nat.reducePow, Int.reduceLT, Int.reduceToNat, reduceCtorEq, Int.reduceNeg, Int.reduceEq, Nat.reduceBEq, Nat.reduceBNe, Int.reduceBEq, Int.reduceBNe, String.reduceEq]; done) | (simp only [push_cast, ↓reduceIte, Nat.reduceEqDiff, Nat.reduceLT, Nat.reduceAdd, Nat.reduceSub, Nat.reduceMul, Nat.reduceLeDiff, Nat.reducePow, Int.reduceLT, Int.reduceToNat, reduceCtorEq, Int.reduceNeg, Int.reduceEq, Nat.reduceBEq, Nat.reduceBNe, Int.reduceBEq, Int.reduceBNe, String.reduceEq]; rfl)) (fun hc => by cases hc) (fun hc => ?_)
    refine AWp.skip (hKA _ ?_)
    rw [← bys_cons]
    refine AWp.regionS fun K hK => ?_; simp only [push_cast, ↓reduceIte, Nat.reduceEqDiff, Nat.reduceLT, Nat.reduceAdd, Nat.reduceSub, Nat.reduceMul, Nat.reduceLeDiff, Nat.reducePow, Int.reduceLT, Int.reduceToNat, reduceCtorEq, Int.reduceNeg, Int.reduceEq, Nat.reduceBEq, Nat.reduceBNe, Int.reduceBEq, Int.reduceBNe, String.reduceEq]
    refine ARun2.buildOwn (e := 5) rfl rfl YtoapdhogghbojaaDoor.Facts.es24 YtoapdhogghbojaaDoor.Facts.el24 rfl (fun p hp => by simp at hp) (by decide) ?_
    refine ARun2.go ?_; simp only [push_cast, ↓reduceIte, Nat.reduceEqDiff, Nat.reduceLT, Nat.reduceAdd, Nat.reduceSub, Nat.reduceMul, Nat.reduceLeDiff, Nat.reducePow, Int.reduceLT, Int.reduceToNat, reduceCtorEq, Int.reduceNeg, Int.reduceEq, Nat.reduceBEq, Nat.reduceBNe, Int.reduceBEq, Int.reduceBNe, String.reduceEq]
    refine ARun2.append (xs := []) rfl rfl (by first | (simp only [push_cast, ↓reduceIte, Nat.reduceEqDiff, Nat.reduceLT, Nat.reduceAdd, Nat.reduceSub, Nat.reduceMul, Nat.reduceLeDiff, Nat.reducePow, Int.reduceLT, Int.reduceToNat, reduceCtorEq, Int.reduceNeg, Int.reduceEq, Nat.reduceBEq, Nat.reduceBNe, Int.reduceBEq, Int.reduceBNe, String.reduceEq]; done) | (simp only [push_cast, ↓reduceIte, Nat.reduceEqDiff, Nat.reduceLT, Nat.reduceAdd, Nat.reduceSub, Nat.reduceMul, Nat.reduceLeDiff, Nat.reducePow, Int.reduceLT, Int.reduceToNat, reduceCtorEq, Int.reduceNeg, Int.reduceEq, Nat.reduceBEq, Nat.reduceBNe, Int.reduceBEq, Int.reduceBNe, String.reduceEq]; rfl)) rfl (by first | (simp only [push_cast, ↓reduceIte, Nat.reduceEqDiff, Nat.reduceLT, Nat.reduceAdd, Nat.reduceSub, Nat.reduceMul, Nat.reduceLeDiff, Nat.reducePow, Int.reduceLT, Int.reduceToNat, reduceCtorEq, Int.reduceNeg, Int.reduceEq, Nat.reduceBEq, Nat.reduceBNe, Int.reduceBEq, Int.reduceBNe, String.reduceEq]; done) | (simp only [push_cast, ↓reduceIte, Nat.reduceEqDiff, Nat.reduceLT, Nat.reduceAdd, Nat.reduceSub, Nat.reduceMul, Nat.reduceLeDiff, Nat.reducePow, Int.reduceLT, Int.reduceToNat, reduceCtorEq, Int.reduceNeg, Int.reduceEq, Nat.reduceBEq, Nat.reduceBNe, Int.reduceBEq, Int.reduceBNe, String.reduceEq]; rfl)) (by first | (simp only [push_cast, ↓reduceIte, Nat.reduceEqDiff, Nat.reduceLT, Nat.reduceAdd, Nat.reduceSub, Nat.reduceMul, Nat.reduceLeDiff, Nat.reducePow, Int.reduceLT, Int.reduceToNat, reduceCtorEq, Int.reduceNeg, Int.reduceEq, Nat.reduceBEq, Nat.reduceBNe, Int.reduceBEq, Int.reduceBNe, String.reduceEq]; done) | (simp only [push_cast, ↓reduceIte, Nat.reduceEqDiff, Nat.reduceLT, Nat.reduceAdd, Nat.reduceSub, Nat.reduceMul, Nat.reduceLeDiff, Nat.reducePow, Int.reduceLT, Int.reduceToNat, reduceCtorEq, Int.reduceNeg, Int.reduceEq, Nat.reduceBEq, Nat.reduceBNe, Int.reduceBEq, Int.reduceBNe, String.reduceEq]; rfl)) (.inl (by first | (simp only [push_cast, ↓reduceIte, Nat.reduceEqDiff, Nat.reduceLT, Nat.reduceAdd, Nat.reduceSub, Nat.reduceMul, Nat.reduceLeDiff, Nat.reducePow, Int.reduceLT, Int.reduceToNat, reduceCtorEq, Int.reduceNeg, Int.reduceEq, Nat.reduceBEq, Nat.reduceBNe, Int.reduceBEq, Int.reduceBNe, String.reduceEq]; done) | (simp only [push_cast, ↓reduceIte, Nat.reduceEqDiff, Nat.reduceLT, Nat.reduceAdd, Nat.reduceSub, Nat.reduceMul, Nat.reduceLeDiff, Nat.reducePow, Int.reduceLT, Int.reduceToNat, reduceCtorEq, Int.reduceNeg, Int.reduceEq, Nat.reduceBEq, Nat.reduceBNe, Int.reduceBEq, Int.reduceBNe, String.reduceEq]; rfl))) (by first | (simp only [push_cast, ↓reduceIte, Nat.reduceEqDiff, Nat.reduceLT, Nat.reduceAdd, Nat.reduceSub, Nat.reduceMul, Nat.reduceLeDiff, Nat.reducePow, Int.reduceLT, Int.reduceToNat, reduceCtorEq, Int.reduceNeg, Int.reduceEq, Nat.reduceBEq, Nat.reduceBNe, Int.reduceBEq, Int.reduceBNe, String.reduceEq]; done) | (simp only [push_cast, ↓reduceIte, Nat.reduceEqDiff, Nat.reduceLT, Nat.reduceAdd, Nat.reduceSub, Nat.reduceMul, Nat.reduceLeDiff, Nat.reducePow, Int.reduceLT, Int.reduceToNat, reduceCtorEq, Int.reduceNeg, Int.reduceEq, Nat.reduceBEq, Nat.reduceBNe, Int.reduceBEq, Int.reduceBNe, String.reduceEq]; rfl)) ?_ ?_ rfl (by first | (simp only [push_cast, ↓reduceIte, Nat.reduceEqDiff, Nat.reduceLT, Nat.reduceAdd, Nat.reduceSub, Nat.reduceMul, Nat.reduceLeDiff, Nat.reducePow, Int.reduceLT, Int.reduceToNat, reduceCtorEq, Int.reduceNeg, Int.reduceEq, Nat.reduceBEq, Nat.reduceBNe, Int.reduceBEq, Int.reduceBNe, String.reduceEq]; done) | (simp only [push_cast, ↓reduceIte, Nat.reduceEqDiff, Nat.reduceLT, Nat.reduceAdd, Nat.reduceSub, Nat.reduceMul, Nat.reduceLeDiff, Nat.reducePow, Int.reduceLT, Int.reduceToNat, reduceCtorEq, Int.reduceNeg, Int.reduceEq, Nat.reduceBEq, Nat.reduceBNe, Int.reduceBEq, Int.reduceBNe, String.reduceEq]; rfl)) ?_
    · rw [YtoapdhogghbojaaDoor.Facts.eb24, bys_len]; simp only [List.length_nil]; omega
    · rw [bys_len]; simp only [List.length_nil]; omega
    rw [List.nil_append]
    simp only [push_cast, ↓reduceIte, Nat.reduceEqDiff, Nat.reduceLT, Nat.reduceAdd, Nat.reduceSub, Nat.reduceMul, Nat.reduceLeDiff, Nat.reducePow, Int.reduceLT, Int.reduceToNat, reduceCtorEq, Int.reduceNeg, Int.reduceEq, Nat.reduceBEq, Nat.reduceBNe, Int.reduceBEq, Int.reduceBNe, String.reduceEq]
    refine ARun2.nil (hK _ ?_); clear hK K
    refine AWp.pub 0 rfl (Nat.le_refl _) ?_
    refine AWp.ret ⟨_, rfl, ?_⟩
    simp only [push_cast, ↓reduceIte, Nat.reduceEqDiff, Nat.reduceLT, Nat.reduceAdd, Nat.reduceSub, Nat.reduceMul, Nat.reduceLeDiff, Nat.reducePow, Int.reduceLT, Int.reduceToNat, reduceCtorEq, Int.reduceNeg, Int.reduceEq, Nat.reduceBEq, Nat.reduceBNe, Int.reduceBEq, Int.reduceBNe, String.reduceEq]
theorem ba_loop (b : ByteArray) : ∀ (n i : Nat) (r : List UInt8), b.size - i = n → ByteArray.toList.loop b i r = r.reverse ++ b.data.toList.drop i := by
  have hlen : b.data.toList.length = b.size := Array.length_toList
  intro n
  induction n with
  | zero =>
    intro i r h
    rw [ByteArray.toList.loop, if_neg (by omega), List.drop_of_length_le (by omega), List.append_nil]
  | succ n ih =>
    intro i r h
    have hi : i < b.size := by omega
    have hi' : i < b.data.toList.length := by omega
    have hg : b.get! i = b.data.toList[i] := by
      have hi2 : i < b.data.size := hi
      show b.data[i]! = _
      rw [getElem!_pos b.data i hi2, Array.getElem_toList]
    rw [ByteArray.toList.loop, if_pos hi, ih (i + 1) _ (by omega), List.drop_eq_getElem_cons hi', hg, List.reverse_cons, List.append_assoc]
    rfl
theorem bstr_list (l : List UInt8) : (bstr l).toList = l := by
  rw [ByteArray.toList, ba_loop _ _ 0 [] rfl]
  simp [bstr]
theorem equal_c (l m : List UInt8) : PC Tryd.prog 34 [.sl false 1 (bys l), .sl false 1 (bys m)] (.val (.bool (decide (l = m)))) := by
  refine PC.of_body (by simp only [push_cast]) Tryd.func34 rfl (by rw [Tryd.ntmps34]; simp) ?_
  refine AWp.regionS fun K hK => ?_; simp only [push_cast, ↓reduceIte, Nat.reduceEqDiff, Nat.reduceLT, Nat.reduceAdd, Nat.reduceSub, Nat.reduceMul, Nat.reduceLeDiff, Nat.reducePow, Int.reduceLT, Int.reduceToNat, reduceCtorEq, Int.reduceNeg, Int.reduceEq, Nat.reduceBEq, Nat.reduceBNe, Int.reduceBEq, Int.reduceBNe, String.reduceEq]
  refine ARun2.nil (hK _ ?_); clear hK K
  refine AWp.regionS fun K hK => ?_; simp only [push_cast, ↓reduceIte, Nat.reduceEqDiff, Nat.reduceLT, Nat.reduceAdd, Nat.reduceSub, Nat.reduceMul, Nat.reduceLeDiff, Nat.reducePow, Int.reduceLT, Int.reduceToNat, reduceCtorEq, Int.reduceNeg, Int.reduceEq, Nat.reduceBEq, Nat.reduceBNe, Int.reduceBEq, Int.reduceBNe, String.reduceEq]
  refine ARun2.toStr rfl rfl YtoapdhogghbojaaDoor.Facts.by24 (by first | (simp only [push_cast, ↓reduceIte, Nat.reduceEqDiff, Nat.reduceLT, Nat.reduceAdd, Nat.reduceSub, Nat.reduceMul, Nat.reduceLeDiff, Nat.reducePow, Int.reduceLT, Int.reduceToNat, reduceCtorEq, Int.reduceNeg, Int.reduceEq, Nat.reduceBEq, Nat.reduceBNe, Int.reduceBEq, Int.reduceBNe, String.reduceEq]; done) | (simp only [push_cast, ↓reduceIte, Nat.reduceEqDiff, Nat.reduceLT, Nat.reduceAdd, Nat.reduceSub, Nat.reduceMul, Nat.reduceLeDiff, Nat.reducePow, Int.reduceLT, Int.reduceToNat, reduceCtorEq, Int.reduceNeg, Int.reduceEq, Nat.reduceBEq, Nat.reduceBNe, Int.reduceBEq, Int.reduceBNe, String.reduceEq]; rfl)) (by first | (simp only [push_cast, ↓reduceIte, Nat.reduceEqDiff, Nat.reduceLT, Nat.reduceAdd, Nat.reduceSub, Nat.reduceMul, Nat.reduceLeDiff, Nat.reducePow, Int.reduceLT, Int.reduceToNat, reduceCtorEq, Int.reduceNeg, Int.reduceEq, Nat.reduceBEq, Nat.reduceBNe, Int.reduceBEq, Int.reduceBNe, String.reduceEq]; done) | (simp only [push_cast, ↓reduceIte, Nat.reduceEqDiff, Nat.reduceLT, Nat.reduceAdd, Nat.reduceSub, Nat.reduceMul, Nat.reduceLeDiff, Nat.reducePow, Int.reduceLT, Int.reduceToNat, reduceCtorEq, Int.reduceNeg, Int.reduceEq, Nat.reduceBEq, Nat.reduceBNe, Int.reduceBEq, Int.reduceBNe, String.reduceEq]; rfl)) ?_
  refine ARun2.go ?_; simp only [push_cast, ↓reduceIte, Nat.reduceEqDiff, Nat.reduceLT, Nat.reduceAdd, Nat.reduceSub, Nat.reduceMul, Nat.reduceLeDiff, Nat.reducePow, Int.reduceLT, Int.reduceToNat, reduceCtorEq, Int.reduceNeg, Int.reduceEq, Nat.reduceBEq, Nat.reduceBNe, Int.reduceBEq, Int.reduceBNe, String.reduceEq]
  refine ARun2.toStr rfl rfl YtoapdhogghbojaaDoor.Facts.by24 (by first | (simp only [push_cast, ↓reduceIte, Nat.reduceEqDiff, Nat.reduceLT, Nat.reduceAdd, Nat.reduceSub, Nat.reduceMul, Nat.reduceLeDiff, Nat.reducePow, Int.reduceLT, Int.reduceToNat, reduceCtorEq, Int.reduceNeg, Int.reduceEq, Nat.reduceBEq, Nat.reduceBNe, Int.reduceBEq, Int.reduceBNe, String.reduceEq]; done) | (simp only [push_cast, ↓reduceIte, Nat.reduceEqDiff, Nat.reduceLT, Nat.reduceAdd, Nat.reduceSub, Nat.reduceMul, Nat.reduceLeDiff, Nat.reducePow, Int.reduceLT, Int.reduceToNat, reduceCtorEq, Int.reduceNeg, Int.reduceEq, Nat.reduceBEq, Nat.reduceBNe, Int.reduceBEq, Int.reduceBNe, String.reduceEq]; rfl)) (by first | (simp only [push_cast, ↓reduceIte, Nat.reduceEqDiff, Nat.reduceLT, Nat.reduceAdd, Nat.reduceSub, Nat.reduceMul, Nat.reduceLeDiff, Nat.reducePow, Int.reduceLT, Int.reduceToNat, reduceCtorEq, Int.reduceNeg, Int.reduceEq, Nat.reduceBEq, Nat.reduceBNe, Int.reduceBEq, Int.reduceBNe, String.reduceEq]; done) | (simp only [push_cast, ↓reduceIte, Nat.reduceEqDiff, Nat.reduceLT, Nat.reduceAdd, Nat.reduceSub, Nat.reduceMul, Nat.reduceLeDiff, Nat.reducePow, Int.reduceLT, Int.reduceToNat, reduceCtorEq, Int.reduceNeg, Int.reduceEq, Nat.reduceBEq, Nat.reduceBNe, Int.reduceBEq, Int.reduceBNe, String.reduceEq]; rfl)) ?_
  refine ARun2.go ?_; simp only [push_cast, ↓reduceIte, Nat.reduceEqDiff, Nat.reduceLT, Nat.reduceAdd, Nat.reduceSub, Nat.reduceMul, Nat.reduceLeDiff, Nat.reducePow, Int.reduceLT, Int.reduceToNat, reduceCtorEq, Int.reduceNeg, Int.reduceEq, Nat.reduceBEq, Nat.reduceBNe, Int.reduceBEq, Int.reduceBNe, String.reduceEq]
  rw [bstr_list, bstr_list]
  refine ARun2.nil (hK _ ?_); clear hK K
  refine AWp.ret ⟨_, rfl, ?_⟩
  simp only [push_cast, ↓reduceIte, Nat.reduceEqDiff, Nat.reduceLT, Nat.reduceAdd, Nat.reduceSub, Nat.reduceMul, Nat.reduceLeDiff, Nat.reducePow, Int.reduceLT, Int.reduceToNat, reduceCtorEq, Int.reduceNeg, Int.reduceEq, Nat.reduceBEq, Nat.reduceBNe, Int.reduceBEq, Int.reduceBNe, String.reduceEq]
  congr 2
  by_cases h : l = m <;> simp [h]
end Go.Proofs.YtoapdhogghbojaaDoor.C
/- Nodes and forms, as values. -/
set_option linter.unusedVariables false
set_option linter.unusedSimpArgs false
namespace Go.Abs
inductive GNode where
  | mk (ty : Nat) (data : List UInt8) (kids : List GNode)
namespace GNode
def ty : GNode → Nat | .mk t _ _ => t
def data : GNode → List UInt8 | .mk _ d _ => d
def kids : GNode → List GNode | .mk _ _ k => k
def zero : GNode := .mk 0 [] []
instance : Inhabited GNode := ⟨zero⟩
end GNode
abbrev u16 (n : Nat) : AV := .val (.int .u16 (N n))
abbrev u8 (n : Nat) : AV := .val (.int .u8 (N n))
abbrev bool (b : Bool) : AV := .val (.bool b)
attribute [push_cast] u16 u8 bool
mutual
def nodeA (b : Bool) : GNode → AV
  | .mk t d k => .agg [u16 t, .sl b 1 (bys d), .sl b 3 (nodesA b k)]
def nodesA (b : Bool) : List GNode → List AV
  | [] => []
  | n :: l => nodeA b n :: nodesA b l
end
@[push_cast] theorem nodeA_eq (b : Bool) (n : GNode) : nodeA b n = .agg [u16 n.ty, .sl b 1 (bys n.data), .sl b 3 (nodesA b n.kids)] := by
  cases n; simp [nodeA, GNode.ty, GNode.data, GNode.kids]
theorem nodesA_map (b : Bool) : ∀ l : List GNode, nodesA b l = l.map (nodeA b)
  | [] => by simp [nodesA]
  | n :: l => by rw [nodesA, nodesA_map b l]; rfl
@[push_cast] theorem nodesA_len (b : Bool) (l : List GNode) : (nodesA b l).length = l.length := by rw [nodesA_map]; simp
theorem nodesA_get (b : Bool) (l : List GNode) (i : Nat) : (nodesA b l)[i]? = l[i]?.map (nodeA b) := by rw [nodesA_map]; simp
theorem nodesA_at (b : Bool) (l : List GNode) (i : Nat) (h : i < l.length) : (nodesA b l)[i]? = some (nodeA b l[i]) := by rw [nodesA_get, List.getElem?_eq_getElem h]; rfl
theorem nodesA_head (b : Bool) (l : List GNode) (h : 0 < l.length) : (nodesA b l)[0]? = some (nodeA b (l.headD default)) := by
  cases l with
  | nil => simp at h
  | cons n l => simp [nodesA]
@[push_cast] theorem nodesA_nil (b : Bool) : nodesA b [] = [] := by simp [nodesA]
@[push_cast] theorem nodesA_cons (b : Bool) (n : GNode) (l : List GNode) : nodesA b (n :: l) = nodeA b n :: nodesA b l := by simp [nodesA]
mutual
theorem nodeA_hand (ids : List Nat) (b : Bool) : ∀ n : GNode, (nodeA b n).hand ids = nodeA false n
  | .mk t d k => by simp only [nodeA, AV.hand, AV.handL, bys_hand, nodesA_hand ids b k]
theorem nodesA_hand (ids : List Nat) (b : Bool) : ∀ l : List GNode, AV.handL ids (nodesA b l) = nodesA false l
  | [] => by simp [nodesA, AV.handL]
  | n :: l => by simp only [nodesA, AV.handL, nodeA_hand ids b n, nodesA_hand ids b l]
end
attribute [push_cast] nodesA_hand
mutual
theorem nodeA_ids (p : Nat → Bool) (b : Bool) : ∀ n : GNode, (nodeA b n).idsOk p = true
  | .mk t d k => by simp only [nodeA, AV.idsOk, AV.idsOkL, bys_ids, nodesA_ids p b k, Bool.and_true]
theorem nodesA_ids (p : Nat → Bool) (b : Bool) : ∀ l : List GNode, AV.idsOkL p (nodesA b l) = true
  | [] => by simp [nodesA, AV.idsOkL]
  | n :: l => by simp only [nodesA, AV.idsOkL, nodeA_ids p b n, nodesA_ids p b l, Bool.and_true]
end
attribute [push_cast] nodesA_ids
mutual
theorem nodeA_pl : ∀ n : GNode, (nodeA false n).pl = true
  | .mk t d k => by simp only [nodeA, AV.pl, AV.plL, bys_pl, nodesA_pl k, Bool.and_true, Bool.not_false]
theorem nodesA_pl : ∀ l : List GNode, AV.plL (nodesA false l) = true
  | [] => by simp [nodesA, AV.plL]
  | n :: l => by simp only [nodesA, AV.plL, nodeA_pl n, nodesA_pl l, Bool.and_true]
end
attribute [push_cast] nodesA_pl
/-- the form of a type -/
structure ShForm where
  cls : Nat
  ty : Nat
  name : ByteArray
  least : Nat
  most : Nat
  unit : Nat
  kids : Nat
@[push_cast] def formA (f : ShForm) : AV := .agg [nat f.cls, u16 f.ty, .val (.string f.name), nat f.least, nat f.most, nat f.unit, nat f.kids]
end Go.Abs
/- shape: contracts. -/
set_option linter.unusedVariables false
set_option linter.unusedSimpArgs false
namespace Go.Proofs.YtoapdhogghbojaaDoor.C
open Go.Abs
/-- the class, the least and the greatest number of nodes inside -/
def insideN (k : Nat) : Nat × Nat × Nat :=
  if k = 1 ∨ k = 4 then (1, 1, 1) else if k = 2 then (1, 1, 16384) else if k = 3 then (2, 1, 16384) else (0, 0, 0)
theorem inside_c (k : Nat) (hk : k < 2 ^ 60) : PC Tryd.prog 72 [nat k] (.tup [nat (insideN k).1, nat (insideN k).2.1, nat (insideN k).2.2]) := by
  refine PC.of_bodyW (by simp only [push_cast]) Tryd.func72 rfl (by rw [Tryd.ntmps72]; simp) ?_
  refine AWp.regionW ?_
  refine AWp.seqK fun K1 hK1 => ?_
  refine AWp.regionW ?_
  refine AWp.block ?_
  refine AWp.seqK fun K2 hK2 => ?_
  refine AWp.regionW ?_
  refine AWp.condLM (fun c0 => ?_) (fun c0 => ?_)
  · skip
    refine AWp.skip ?_
    refine hK2 _ ?_
    refine AWp.condT ?_
    refine AWp.regionW ?_
    refine AWp.ret ?_
    try simp only [thenQ, blockQ, noGo]
    refine bodyQ.m ?_
    clear hK2 K2 hK1 K1
    simp_all [insideN]
    first | done | exact Hand.go
  · skip
    refine AWp.regionV ?_
    refine hK2 _ ?_
    refine AWp.condLM (fun c1 => ?_) (fun c1 => ?_)
    · skip
      refine AWp.regionW ?_
      refine AWp.ret ?_
      try simp only [thenQ, blockQ, noGo]
      refine bodyQ.m ?_
      clear hK2 K2 hK1 K1
      simp_all [insideN]
      first | done | exact Hand.go
    · skip
      refine AWp.regionW ?_
      refine AWp.condLM (fun c2 => ?_) (fun c2 => ?_)
      · skip
        refine AWp.regionW ?_
        refine AWp.ret ?_
        try simp only [thenQ, blockQ, noGo]
        refine bodyQ.m ?_
        clear hK2 K2 hK1 K1
        simp_all [insideN]
        first | done | exact Hand.go
      · skip
        refine AWp.regionW ?_
        refine AWp.condLM (fun c3 => ?_) (fun c3 => ?_)
        · skip
          refine AWp.regionW ?_
          refine AWp.ret ?_
          try simp only [thenQ, blockQ, noGo]
          refine bodyQ.m ?_
          clear hK2 K2 hK1 K1
          simp_all [insideN]
          first | done | exact Hand.go
        · skip
          refine AWp.skip ?_
          refine hK1 _ ?_
          refine AWp.regionW ?_
          refine AWp.ret ?_
          try simp only [thenQ, blockQ, noGo]
          refine bodyQ.m ?_
          clear hK2 K2 hK1 K1
          simp_all [insideN]
          first | done | exact Hand.go
/-- does a number of bytes fit? -/
def fitsN (f : ShForm) (n : Nat) : Bool := decide (f.least ≤ n) && decide (n ≤ f.most) && ((n - f.least) % f.unit == 0)
theorem fits_c (f : ShForm) (n : Nat) (hn : n < 2 ^ 60) (hl : f.least < 2 ^ 60) (hu : 0 < f.unit) (hu2 : f.unit < 2 ^ 60) : PC Tryd.prog 69 [formA f, nat n] (bool (fitsN f n)) := by
  refine PC.of_bodyW (by simp only [push_cast]) Tryd.func69 rfl (by rw [Tryd.ntmps69]; simp) ?_
  refine AWp.regionW ?_
  refine AWp.regionA fun K1 hK1 => ?_
  refine ARun.segm 5 fun KS hKS => ?_
  refine ARun2.endm (hKS _ ?_); clear hKS KS
  apply ARun.grpM 4 4 true 13 [1, 2, 9]
  · intro g4 KG hKG
    refine ARun2.gom ?_
    exact ARun2.endm (hKG _ Le.grpM)
  refine ARun.segm 2 fun KS hKS => ?_
  refine ARun2.endm (hKS _ ?_); clear hKS KS
  apply ARun.grpM 8 10 true 23 [15]
  · intro g10 KG hKG
    have hle : f.least ≤ n := by simp at g10; omega
    refine ARun2.gom ?_
    exact ARun2.endm (hKG _ Le.grpM)
  refine ARun2.gom ?_
  refine ARun2.endm (hK1 _ ?_)
  refine AWp.ret ?_
  try simp only [thenQ, blockQ, noGo]
  refine bodyQ.m ?_
  clear hK1 K1
  simp only [fitsN]
  first | done | exact Hand.go
/-- are the nodes inside as a form wants them? -/
def kidsOk (f : ShForm) (l : List GNode) : Bool :=
  decide ((insideN f.kids).2.1 ≤ l.length) && decide (l.length ≤ (insideN f.kids).2.2) && (f.kids != 4 || (l.headD default).ty == 5 || (l.headD default).ty == 6)
theorem kids_c (f : ShForm) (l : List GNode) (hl : l.length < 2 ^ 60) (hf : f.kids < 2 ^ 60) : PC Tryd.prog 70 [formA f, .sl false 3 (nodesA false l)] (bool (kidsOk f l)) := by
  refine PC.of_bodyW (by simp only [push_cast]) Tryd.func70 rfl (by rw [Tryd.ntmps70]; simp) ?_
  refine AWp.regionW ?_
  refine AWp.regionM fun K1 hK1 => ?_
  refine ARun2.callM (inside_c f.kids hf) ?_
  refine ARun2.endm (hK1 _ ?_)
  refine AWp.regionA fun K2 hK2 => ?_
  refine ARun.segm 5 fun KS hKS => ?_
  refine ARun2.endm (hKS _ ?_); clear hKS KS
  apply ARun.grpM 4 4 true 23 [1, 2, 19]
  · intro g4 KG hKG
    refine ARun2.gom ?_
    exact ARun2.endm (hKG _ Le.grpM)
  refine ARun.segm 2 fun KS hKS => ?_
  refine ARun2.endm (hKS _ ?_); clear hKS KS
  apply ARun.grpM 17 10 true 42 [25]
  · intro g10 KG hKG
    refine ARun.segm 4 fun KS hKS => ?_
    refine ARun2.endm (hKS _ ?_); clear hKS KS
    apply ARun.grpM 5 14 false 34 [1, 25, 29]
    · intro g14 KG hKG
      have hne : 0 < l.length := by
        have hk : f.kids = 4 := by simpa using g14
        simp [insideN, hk] at g10
        omega
      refine ARun2.gom ?_
      refine ARun2.indexM (0) (nodeA false (l.headD default)) ?_ ?_
      · exact nodesA_head false l hne
      exact ARun2.endm (hKG _ Le.grpM)
    refine ARun.segm 2 fun KS hKS => ?_
    refine ARun2.endm (hKS _ ?_); clear hKS KS
    apply ARun.grpM 5 21 false 41 [25, 36]
    · intro g21 KG hKG
      have hne : 0 < l.length := by
        have hk : f.kids = 4 := by simp at g21; exact g21.1
        simp [insideN, hk] at g10
        omega
      refine ARun2.gom ?_
      refine ARun2.indexM (0) (nodeA false (l.headD default)) ?_ ?_
      · exact nodesA_head false l hne
      exact ARun2.endm (hKG _ Le.grpM)
    refine ARun2.gom ?_
    exact ARun2.endm (hKG _ Le.grpM)
  refine ARun2.gom ?_
  refine ARun2.endm (hK2 _ ?_)
  refine AWp.ret ?_
  try simp only [thenQ, blockQ, noGo]
  refine bodyQ.m ?_
  clear hK2 K2 hK1 K1
  simp only [kidsOk, Bool.or_assoc]
  first | done | exact Hand.go
end Go.Proofs.YtoapdhogghbojaaDoor.C
/- wire: the cursor. -/
set_option linter.unusedVariables false
set_option linter.unusedSimpArgs false
namespace Go.Proofs.YtoapdhogghbojaaDoor.C
open Go.Abs
/-- a cursor: its bytes, and how many were read -/
abbrev cur (l : List UInt8) (i : Nat) : Ob := .box 98 [.sl false 1 (bys l), nat i]
theorem new_c (l : List UInt8) (hl : l.length ≤ 2 ^ 40) : OC Tryd.prog 29 [.sl false 1 (bys l)] [] (.ptr 0 0) [cur l 0] := by
  refine OC.of_body [0] (by intro k hk; simp at hk) Tryd.func29 rfl (by rw [Tryd.ntmps29]; simp) ?_
  refine AWp.regionW ?_
  refine AWp.regionM fun K1 hK1 => ?_
  refine ARun2.callM (clone_c l hl) ?_
  refine ARun2.endm (hK1 _ ?_)
  refine AWp.ret ?_
  try simp only [thenQ, blockQ, noGo]
  refine bodyQ.m ?_
  clear hK1 K1
  refine endO.m ?_ ?_
  · rfl
  · skip
    first | done | exact Hand.go
theorem left_c (l : List UInt8) (i : Nat) (hi : i ≤ l.length) (hl : l.length ≤ 2 ^ 40) : OC Tryd.prog 32 [.ptr 0 0] [cur l i] (nat (l.length - i)) [cur l i] := by
  refine OC.of_body [0] (by intro k hk; simp at hk; subst hk; rfl) Tryd.func32 rfl (by rw [Tryd.ntmps32]; simp) ?_
  refine AWp.regionW ?_
  refine AWp.seqK fun K1 hK1 => ?_
  refine AWp.regionW ?_
  refine AWp.condF ?_
  refine AWp.skip ?_
  refine hK1 _ ?_
  refine AWp.drS [[(0, none)], [(5, some 0)], [(6, some 1)], [(7, some 2)], [(8, some 3)], [(0, none)], [(10, some 5)], [(11, some 6)], [(12, some 7)], [(9, some 4), (13, some 8)], [(14, some 9)]] fun G hG => ?_
  refine Dr.sim ?_
  try simp only [List.cons_append, List.nil_append]
  refine Dr.sim ?_
  try simp only [List.cons_append, List.nil_append]
  refine Dr.sim ?_
  try simp only [List.cons_append, List.nil_append]
  refine Dr.sim ?_
  try simp only [List.cons_append, List.nil_append]
  refine Dr.sim ?_
  try simp only [List.cons_append, List.nil_append]
  refine Dr.sim ?_
  try simp only [List.cons_append, List.nil_append]
  refine Dr.sim ?_
  try simp only [List.cons_append, List.nil_append]
  refine Dr.sim ?_
  try simp only [List.cons_append, List.nil_append]
  refine Dr.sim ?_
  try simp only [List.cons_append, List.nil_append]
  refine Dr.sim ?_
  try simp only [List.cons_append, List.nil_append]
  refine Dr.sim ?_
  try simp only [List.cons_append, List.nil_append]
  refine Dr.finM (n := 11) [(2, 10)] [] hG YtoapdhogghbojaaDoor.Facts.mixed fun KD hKD => ?_
  refine ARun2.endm (hKD _ ?_); clear hKD KD hG G
  refine AWp.ret ?_
  try simp only [thenQ, blockQ, noGo]
  refine bodyQ.m ?_
  clear hK1 K1
  refine endO.m ?_ ?_
  · rfl
  · skip
    try simp only [bys_len]
    first | done | exact Hand.go
/-- the next number of a cursor -/
def peekN (k : Nat) (l : List UInt8) (i : Nat) : Nat := if i + k ≤ l.length then beN ((l.drop i).take k) else 0
theorem peek_c (k : Nat) (l : List UInt8) (i : Nat) (hk : k = 1 ∨ k = 2 ∨ k = 4) (hi : i ≤ l.length) (hl : l.length ≤ 2 ^ 40) :
    OC Tryd.prog 49 [.ptr 0 0, nat k] [cur l i] (.tup [u32 (peekN k l i), bool (decide (i + k ≤ l.length))]) [cur l i] := by
  have hr : (k == 1 || k == 2 || k == 4) = true := by rcases hk with rfl | rfl | rfl <;> rfl
  have hil : (l.drop i).length = l.length - i := List.length_drop
  refine OC.of_body [0] (by intro k hk; simp at hk; subst hk; rfl) Tryd.func49 rfl (by rw [Tryd.ntmps49]; simp) ?_
  refine AWp.regionW ?_
  refine AWp.seqK fun K1 hK1 => ?_
  refine AWp.regionM fun K2 hK2 => ?_
  refine ARun2.callM (hr ▸ wire_right k) ?_
  refine ARun2.callOM [0] (left_c l i hi hl) ?_
  refine ARun2.endm (hK2 _ ?_)
  refine AWp.condLM (fun c0 => ?_) (fun c0 => ?_)
  · skip
    have hno : ¬ i + k ≤ l.length := by simp at c0; omega
    refine AWp.regionW ?_
    refine AWp.ret ?_
    try simp only [thenQ, blockQ, noGo]
    refine bodyQ.m ?_
    clear hK2 K2 hK1 K1
    refine endO.m ?_ ?_
    · rfl
    · skip
      simp only [peekN, hno, if_false, decide_false]
      first | done | exact Hand.go
  · skip
    have hyes : i + k ≤ l.length := by simp at c0; omega
    have hpos : 0 < (l.drop i).length / k := by rw [hil]; exact Nat.div_pos (by omega) (by omega)
    refine AWp.skip ?_
    refine hK1 _ ?_
    refine AWp.seqK fun K3 hK3 => ?_
    refine AWp.drS [[(1, none)], [(0, none)], [(17, some 1)], [(18, some 2)], [(19, some 3)], [(0, none)], [(21, some 5)], [(22, some 6)], [(23, some 7)], [(20, some 4), (24, some 8)], [(16, some 0), (25, some 9)]] fun G hG => ?_
    refine Dr.sim ?_
    try simp only [List.cons_append, List.nil_append]
    refine Dr.sim ?_
    try simp only [List.cons_append, List.nil_append]
    refine Dr.sim ?_
    try simp only [List.cons_append, List.nil_append]
    refine Dr.sim ?_
    try simp only [List.cons_append, List.nil_append]
    refine Dr.sim ?_
    try simp only [List.cons_append, List.nil_append]
    refine Dr.sim ?_
    try simp only [List.cons_append, List.nil_append]
    refine Dr.sim ?_
    try simp only [List.cons_append, List.nil_append]
    refine Dr.sim ?_
    try simp only [List.cons_append, List.nil_append]
    refine Dr.sim ?_
    try simp only [List.cons_append, List.nil_append]
    refine Dr.sliceLo (i) ?_ ?_
    · rw [bys_len]; omega
    try simp only [List.cons_append, List.nil_append]
    refine Dr.call (numbers_c k (l.drop i)) ?_
    try simp only [List.cons_append, List.nil_append]
    refine Dr.finM (n := 11) [(26, 10)] [4, 5] hG YtoapdhogghbojaaDoor.Facts.mixed fun KD hKD => ?_
    refine ARun2.endm (hKD _ ?_); clear hKD KD hG G
    refine AWp.block ?_
    refine AWp.rangeFuncM (numbers_iter k (l.drop i) hk (by omega)) [4, 5] (fun pre ob tr go => pre = [] ∧ ob = [cur l i, .box 22 [.val (.int .u32 0)], .box 4 [.val (.bool false)]]) (fun e ob tr go => e = .ret ∧ ob = [cur l i, .box 22 [u32 (beN ((l.drop i).take k))], .box 4 [.val (.bool true)]]) ?_ ?_ ?_ ?_ ?_
    · exact numYs_ps _
    · exact ⟨rfl, rfl⟩
    · rintro pre x post ob tr go hxs ⟨rfl, rfl⟩
      have hx : (numYs k (l.drop i))[0]? = some x := by rw [hxs]; rfl
      rw [numYs_get hpos] at hx
      simp only [Option.some.injEq, Nat.zero_mul, List.drop_zero] at hx
      subst hx
      refine AWp.regionV ?_
      change AWp _ _ _ _
      refine AWp.block ?_
      refine AWp.regionW ?_
      refine AWp.ret ?_
      try simp only [thenQ, blockQ, noGo]
      refine ⟨_, Le.refl _, ?_⟩
      exact ⟨rfl, rfl⟩
    · rintro ob tr go df ⟨h, _⟩
      have := congrArg List.length h
      rw [numYs_len, nums_len] at this
      simp at this
      omega
    · rintro e ob tr go df ⟨rfl, rfl⟩
      refine bodyQ.m ?_
      refine endO.m ?_ ?_
      · rfl
      · simp only [peekN, hyes, if_true, decide_true]
        exact Hand.go
/-- a number is read -/
theorem number_c (k : Nat) (l : List UInt8) (i : Nat) (hk : k = 1 ∨ k = 2 ∨ k = 4) (hi : i ≤ l.length) (hl : l.length ≤ 2 ^ 40) :
    OC Tryd.prog 30 [.ptr 0 0, nat k] [cur l i] (.tup [u32 (peekN k l i), bool (decide (i + k ≤ l.length))]) [cur l (if i + k ≤ l.length then i + k else i)] := by
  refine OC.of_body [0] (by intro k hk; simp at hk; subst hk; rfl) Tryd.func30 rfl (by rw [Tryd.ntmps30]; simp) ?_
  refine AWp.regionW ?_
  refine AWp.regionM fun K1 hK1 => ?_
  refine ARun2.callOM [0] (peek_c k l i hk hi hl) ?_
  refine ARun2.endm (hK1 _ ?_)
  refine AWp.seqK fun K2 hK2 => ?_
  refine AWp.regionW ?_
  refine AWp.condLM (fun c0 => ?_) (fun c0 => ?_)
  · skip
    have hyes : i + k ≤ l.length := of_decide_eq_true c0
    refine AWp.regionV ?_
    refine hK2 _ ?_
    refine AWp.regionW ?_
    refine AWp.ret ?_
    try simp only [thenQ, blockQ, noGo]
    refine bodyQ.m ?_
    clear hK2 K2 hK1 K1
    refine endO.m ?_ ?_
    · first | (rw [if_pos (by assumption)]) | (rw [if_neg (by assumption)])
    · skip
      first | done | exact Hand.go
  · skip
    have hno : ¬ i + k ≤ l.length := of_decide_eq_false c0
    refine AWp.skip ?_
    refine hK2 _ ?_
    refine AWp.regionW ?_
    refine AWp.ret ?_
    try simp only [thenQ, blockQ, noGo]
    refine bodyQ.m ?_
    clear hK2 K2 hK1 K1
    refine endO.m ?_ ?_
    · first | (rw [if_pos (by assumption)]) | (rw [if_neg (by assumption)])
    · skip
      first | done | exact Hand.go
end Go.Proofs.YtoapdhogghbojaaDoor.C
/- node: counted, Size. -/
set_option linter.unusedVariables false
set_option linter.unusedSimpArgs false
namespace Go.Proofs.YtoapdhogghbojaaDoor.C
open Go.Abs
theorem peekN_lt (k : Nat) (l : List UInt8) (i : Nat) (hk : k ≤ 4) : peekN k l i < 2 ^ 32 := by
  unfold peekN
  split
  · refine Nat.lt_of_lt_of_le (beN_lt _) ?_
    have h : ((l.drop i).take k).length ≤ 4 := Nat.le_trans (List.length_take_le _ _) hk
    exact Nat.le_trans (Nat.pow_le_pow_right (by omega) h) (by decide)
  · decide
/-- is the number in the data wrong? -/
def countedN (c t : Nat) (d : List UInt8) : Bool := c == 2 && (t == 2 && (!decide (4 ≤ d.length) || peekN 4 d 0 != (d.length - 4) / 2))
theorem counted_c (c t : Nat) (d : List UInt8) (hl : d.length ≤ 2 ^ 40) : PC Tryd.prog 71 [nat c, u16 t, .sl false 1 (bys d)] (bool (countedN c t d)) := by
  have hp := peekN_lt 4 d 0 (by omega)
  refine PC.of_bodyW (by simp only [push_cast]) Tryd.func71 rfl (by rw [Tryd.ntmps71]; simp) ?_
  refine AWp.regionW ?_
  refine AWp.regionM fun K1 hK1 => ?_
  refine ARun2.callOM [] (new_c d hl) ?_
  refine ARun2.callOM [0] (number_c 4 d 0 (by omega) (by omega) hl) ?_
  refine ARun2.endm (hK1 _ ?_)
  refine AWp.regionA fun K2 hK2 => ?_
  refine ARun.segm 3 fun KS hKS => ?_
  refine ARun2.endm (hKS _ ?_); clear hKS KS
  apply ARun.grpM 2 2 true 19 [2, 7, 8, 17]
  · intro g2 KG hKG
    refine ARun2.gom ?_
    exact ARun2.endm (hKG _ Le.grpM)
  refine ARun.segm 2 fun KS hKS => ?_
  refine ARun2.endm (hKS _ ?_); clear hKS KS
  apply ARun.grpM 11 6 true 32 [21]
  · intro g6 KG hKG
    refine ARun.segm 3 fun KS hKS => ?_
    refine ARun2.endm (hKS _ ?_); clear hKS KS
    apply ARun.grpM 7 9 false 31 [21, 24]
    · intro g9 KG hKG
      have h4 : 4 ≤ d.length := by simpa using g9
      refine ARun2.gom ?_
      exact ARun2.endm (hKG _ Le.grpM)
    refine ARun2.gom ?_
    exact ARun2.endm (hKG _ Le.grpM)
  refine ARun2.gom ?_
  refine ARun2.endm (hK2 _ ?_)
  refine AWp.ret ?_
  try simp only [thenQ, blockQ, noGo]
  refine bodyQ.m ?_
  clear hK2 K2 hK1 K1
  simp only [countedN, Nat.zero_add, Bool.and_assoc]
  first | done | exact Hand.go
/-- the size of a list of frames' values -/
def tlvSize (l : List Nat) : Nat := sumUp 0 (l.map (4 + ·))
/-- a frame -/
structure Frm where
  ty : Nat
  val : List UInt8
@[push_cast] def frmA (b : Bool) (f : Frm) : AV := .agg [u16 f.ty, .sl b 1 (bys f.val)]
def frmsA (b : Bool) (l : List Frm) : List AV := l.map (frmA b)
@[push_cast] theorem frmsA_len (b : Bool) (l : List Frm) : (frmsA b l).length = l.length := by simp [frmsA]
theorem frmsA_at (b : Bool) (l : List Frm) (i : Nat) (h : i < l.length) : (frmsA b l)[i]? = some (frmA b l[i]) := by simp [frmsA, h]
@[push_cast] theorem frmsA_ids (b : Bool) (p : Nat → Bool) (l : List Frm) : AV.idsOkL p (frmsA b l) = true := by
  rw [AV.idsOkL_iff]; intro x hx; simp only [frmsA, List.mem_map] at hx; obtain ⟨f, _, rfl⟩ := hx; simp [frmA, AV.idsOk, AV.idsOkL, bys_ids]
@[push_cast] theorem frmsA_hand (ids : List Nat) (b : Bool) (l : List Frm) : AV.handL ids (frmsA b l) = frmsA false l := by
  rw [AV.handL_map]; simp [frmsA, frmA, AV.hand, AV.handL, bys_hand]
theorem tlvSize_c (l : List Frm) (h : tlvSize (l.map fun f => f.val.length) < 2 ^ 61) (hl : l.length ≤ 2 ^ 40) (hv : ∀ f ∈ l, f.val.length ≤ 2 ^ 40) : PC Tryd.prog 48 [.sl false 2 (frmsA false l)] (nat (tlvSize (l.map fun f => f.val.length))) := by
  refine PC.of_bodyW (by simp only [push_cast]) Tryd.func48 rfl (by rw [Tryd.ntmps48]; simp) ?_
  refine AWp.regionW ?_
  refine AWp.regionW ?_
  refine AWp.seqK fun K1 hK1 => ?_
  refine AWp.regionW ?_
  refine AWp.block ?_
  -- SLOTS THAT TURN AND ARE NOT TOLD: [3]
  refine AWp.nilOwn 3 3 1 (by simp only [push_cast, ↓reduceIte, Nat.reduceEqDiff, Nat.reduceLT, Nat.reduceAdd, Nat.reduceSub, Nat.reduceMul, Nat.reduceLeDiff, Nat.reducePow, Int.reduceLT, Int.reduceToNat, reduceCtorEq, Int.reduceNeg, Int.reduceEq, Nat.reduceBEq, Nat.reduceBNe, Int.reduceBEq, Int.reduceBNe, String.reduceEq]) ?_
  simp only [push_cast, ↓reduceIte, Nat.reduceEqDiff, Nat.reduceLT, Nat.reduceAdd, Nat.reduceSub, Nat.reduceMul, Nat.reduceLeDiff, Nat.reducePow, Int.reduceLT, Int.reduceToNat, reduceCtorEq, Int.reduceNeg, Int.reduceEq, Nat.reduceBEq, Nat.reduceBNe, Int.reduceBEq, Int.reduceBNe, String.reduceEq]
  refine AWp.loopK [3, 6, 7] (fun (i : Nat) => [(8, nat i)]) (fun i => [.row 3 1 (nats ((l.take i).map fun f => 4 + f.val.length))]) (fun i => i ≤ l.length) (fun i => l.length - i) (0) ?_ (Nat.zero_le _) ?_
  · skip
    refine Le.m 1 ?_ ?_
    · try simp only [push_cast, ↓reduceIte, Nat.reduceEqDiff, Nat.reduceLT, Nat.reduceAdd, Nat.reduceSub, Nat.reduceMul, Nat.reduceLeDiff, Nat.reducePow, Int.reduceLT, Int.reduceToNat, reduceCtorEq, Int.reduceNeg, Int.reduceEq, Nat.reduceBEq, Nat.reduceBNe, Int.reduceBEq, Int.reduceBNe, String.reduceEq]
      try simp (disch := omega) only [w_nat, w_add, w_addl, w_addr, w_sub, w_subl, w_mul, w_mull, w_mulr, w_u32, w_u16, w_u8, w_u32a, N_zero]
      first | done | skip
      rfl
    · first | (simp only [push_cast, ↓reduceIte, Nat.reduceEqDiff, Nat.reduceLT, Nat.reduceAdd, Nat.reduceSub, Nat.reduceMul, Nat.reduceLeDiff, Nat.reducePow, Int.reduceLT, Int.reduceToNat, reduceCtorEq, Int.reduceNeg, Int.reduceEq, Nat.reduceBEq, Nat.reduceBNe, Int.reduceBEq, Int.reduceBNe, String.reduceEq]; first | done | rfl | (simp (disch := omega) only [w_nat, w_add, w_addl, w_addr, w_sub, w_subl, w_mul, w_mull, w_mulr, w_u32, w_u16, w_u8, w_u32a, N_zero]; first | done | rfl))
  · intro i hi K2 hK2
    refine AWp.regionW ?_
    refine AWp.seqK fun K3 hK3 => ?_
    refine AWp.condLM (fun c0 => ?_) (fun c0 => ?_)
    · skip
      have hil : i < l.length := by simpa using c0
      have hvi := hv l[i] (List.getElem_mem hil)
      refine AWp.skip ?_
      refine hK3 _ ?_
      refine AWp.seqK fun K4 hK4 => ?_
      refine AWp.block ?_
      refine AWp.regionM fun K5 hK5 => ?_
      refine ARun2.indexM (i) (frmA false l[i]) ?_ ?_
      · exact frmsA_at _ _ _ hil
      refine ARun2.endm (hK5 _ ?_)
      refine AWp.regionN fun K6 hK6 => ?_
      refine ARun2.appendM ?_ ?_ ?_
      · rw [YtoapdhogghbojaaDoor.Facts.eb118, nats_len, List.length_map, List.length_take, List.length_cons, List.length_nil]; omega
      · rw [nats_len, List.length_map, List.length_take, List.length_cons, List.length_nil]; omega
      refine ARun2.endm (hK6 _ ?_)
      refine hK4 _ ?_
      refine AWp.regionV ?_
      refine hK2 _ (i + 1) (by omega) (by omega) ?_
      refine Le.m 1 ?_ ?_
      · try simp only [push_cast, ↓reduceIte, Nat.reduceEqDiff, Nat.reduceLT, Nat.reduceAdd, Nat.reduceSub, Nat.reduceMul, Nat.reduceLeDiff, Nat.reducePow, Int.reduceLT, Int.reduceToNat, reduceCtorEq, Int.reduceNeg, Int.reduceEq, Nat.reduceBEq, Nat.reduceBNe, Int.reduceBEq, Int.reduceBNe, String.reduceEq]
        try simp (disch := omega) only [w_nat, w_add, w_addl, w_addr, w_sub, w_subl, w_mul, w_mull, w_mulr, w_u32, w_u16, w_u8, w_u32a, N_zero]
        first | done | skip
        rw [List.take_succ_eq_append_getElem hil, List.map_append]; simp [nats]
      · first | (simp only [push_cast, ↓reduceIte, Nat.reduceEqDiff, Nat.reduceLT, Nat.reduceAdd, Nat.reduceSub, Nat.reduceMul, Nat.reduceLeDiff, Nat.reducePow, Int.reduceLT, Int.reduceToNat, reduceCtorEq, Int.reduceNeg, Int.reduceEq, Nat.reduceBEq, Nat.reduceBNe, Int.reduceBEq, Int.reduceBNe, String.reduceEq]; first | done | rfl | (simp (disch := omega) only [w_nat, w_add, w_addl, w_addr, w_sub, w_subl, w_mul, w_mull, w_mulr, w_u32, w_u16, w_u8, w_u32a, N_zero]; first | done | rfl))
    · skip
      have hil : i = l.length := by simp at c0; omega
      subst hil
      refine AWp.exit ?_
      try simp only [thenQ, blockQ, noGo, reduceIte, Nat.reduceEqDiff]
      refine hK1 _ ?_
      refine AWp.pub 0 rfl (Nat.le_refl _) ?_
      simp only [push_cast, ↓reduceIte, Nat.reduceEqDiff, Nat.reduceLT, Nat.reduceAdd, Nat.reduceSub, Nat.reduceMul, Nat.reduceLeDiff, Nat.reducePow, Int.reduceLT, Int.reduceToNat, reduceCtorEq, Int.reduceNeg, Int.reduceEq, Nat.reduceBEq, Nat.reduceBNe, Int.reduceBEq, Int.reduceBNe, String.reduceEq, List.take_length]
      refine AWp.regionM fun K7 hK7 => ?_
      refine ARun2.callM (pad_sizes (l.map fun f => 4 + f.val.length) (by simpa [tlvSize, List.map_map, Function.comp_def] using h) (by rw [List.length_map]; omega)) ?_
      refine ARun2.endm (hK7 _ ?_)
      refine AWp.ret ?_
      try simp only [thenQ, blockQ, noGo]
      refine bodyQ.m ?_
      clear hK7 K7 hK3 K3 hK2 K2 hK1 K1
      simp only [tlvSize, List.map_map, Function.comp_def]
      first | done | exact Hand.go
end Go.Proofs.YtoapdhogghbojaaDoor.C
/- shape: the table of forms. -/
set_option linter.unusedVariables false
set_option linter.unusedSimpArgs false
namespace Go.Abs
/-- the parameters' forms: type, name, least, most, unit, kids -/
def paramForms : List ShForm := [⟨0, 1, ⟨#[104, 101, 97, 114, 116, 98, 101, 97, 116, 45, 105, 110, 102, 111]⟩, 0, 65531, 1, 0⟩,
  ⟨0, 5, ⟨#[105, 112, 118, 52]⟩, 4, 4, 1, 0⟩,
  ⟨0, 6, ⟨#[105, 112, 118, 54]⟩, 16, 16, 1, 0⟩,
  ⟨0, 7, ⟨#[115, 116, 97, 116, 101, 45, 99, 111, 111, 107, 105, 101]⟩, 0, 65531, 1, 0⟩,
  ⟨0, 8, ⟨#[117, 110, 114, 101, 99, 111, 103, 110, 105, 122, 101, 100]⟩, 0, 0, 1, 1⟩,
  ⟨0, 9, ⟨#[99, 111, 111, 107, 105, 101, 45, 112, 114, 101, 115, 101, 114, 118, 97, 116, 105, 118, 101]⟩, 4, 4, 1, 0⟩,
  ⟨0, 11, ⟨#[104, 111, 115, 116, 45, 110, 97, 109, 101]⟩, 1, 65531, 1, 0⟩,
  ⟨0, 12, ⟨#[97, 100, 100, 114, 101, 115, 115, 45, 116, 121, 112, 101, 115]⟩, 2, 65531, 2, 0⟩,
  ⟨0, 13, ⟨#[111, 117, 116, 103, 111, 105, 110, 103, 45, 114, 101, 115, 101, 116]⟩, 12, 65531, 2, 0⟩,
  ⟨0, 14, ⟨#[105, 110, 99, 111, 109, 105, 110, 103, 45, 114, 101, 115, 101, 116]⟩, 4, 65531, 2, 0⟩,
  ⟨0, 15, ⟨#[116, 115, 110, 45, 114, 101, 115, 101, 116]⟩, 4, 4, 1, 0⟩,
  ⟨0, 16, ⟨#[114, 101, 99, 111, 110, 102, 105, 103, 45, 114, 101, 115, 112, 111, 110, 115, 101]⟩, 8, 16, 8, 0⟩,
  ⟨0, 17, ⟨#[97, 100, 100, 45, 111, 117, 116, 103, 111, 105, 110, 103]⟩, 8, 8, 1, 0⟩,
  ⟨0, 18, ⟨#[97, 100, 100, 45, 105, 110, 99, 111, 109, 105, 110, 103]⟩, 8, 8, 1, 0⟩,
  ⟨0, 32768, ⟨#[101, 99, 110]⟩, 0, 0, 1, 0⟩,
  ⟨0, 32770, ⟨#[114, 97, 110, 100, 111, 109]⟩, 1, 65531, 1, 0⟩,
  ⟨0, 32771, ⟨#[99, 104, 117, 110, 107, 45, 108, 105, 115, 116]⟩, 0, 65531, 1, 0⟩,
  ⟨0, 32772, ⟨#[104, 109, 97, 99, 45, 97, 108, 103, 111, 114, 105, 116, 104, 109, 115]⟩, 2, 65531, 2, 0⟩,
  ⟨0, 32773, ⟨#[112, 97, 100, 100, 105, 110, 103]⟩, 0, 65531, 1, 0⟩,
  ⟨0, 32776, ⟨#[101, 120, 116, 101, 110, 115, 105, 111, 110, 115]⟩, 0, 65531, 1, 0⟩,
  ⟨0, 49152, ⟨#[102, 111, 114, 119, 97, 114, 100, 45, 116, 115, 110]⟩, 0, 0, 1, 0⟩,
  ⟨0, 49153, ⟨#[97, 100, 100, 45, 105, 112]⟩, 4, 4, 1, 4⟩,
  ⟨0, 49154, ⟨#[100, 101, 108, 101, 116, 101, 45, 105, 112]⟩, 4, 4, 1, 4⟩,
  ⟨0, 49155, ⟨#[101, 114, 114, 111, 114, 45, 105, 110, 100, 105, 99, 97, 116, 105, 111, 110]⟩, 4, 4, 1, 3⟩,
  ⟨0, 49156, ⟨#[115, 101, 116, 45, 112, 114, 105, 109, 97, 114, 121]⟩, 4, 4, 1, 4⟩,
  ⟨0, 49157, ⟨#[115, 117, 99, 99, 101, 115, 115]⟩, 4, 4, 1, 0⟩,
  ⟨0, 49158, ⟨#[97, 100, 97, 112, 116, 97, 116, 105, 111, 110]⟩, 4, 4, 1, 0⟩]
/-- the causes' forms -/
def causeForms : List ShForm := [⟨0, 1, ⟨#[105, 110, 118, 97, 108, 105, 100, 45, 115, 116, 114, 101, 97, 109]⟩, 4, 4, 1, 0⟩,
  ⟨0, 2, ⟨#[109, 105, 115, 115, 105, 110, 103, 45, 112, 97, 114, 97, 109, 101, 116, 101, 114]⟩, 6, 65531, 2, 0⟩,
  ⟨0, 3, ⟨#[115, 116, 97, 108, 101, 45, 99, 111, 111, 107, 105, 101]⟩, 4, 4, 1, 0⟩,
  ⟨0, 4, ⟨#[111, 117, 116, 45, 111, 102, 45, 114, 101, 115, 111, 117, 114, 99, 101]⟩, 0, 0, 1, 0⟩,
  ⟨0, 5, ⟨#[117, 110, 114, 101, 115, 111, 108, 118, 97, 98, 108, 101, 45, 97, 100, 100, 114, 101, 115, 115]⟩, 0, 0, 1, 1⟩,
  ⟨0, 6, ⟨#[117, 110, 114, 101, 99, 111, 103, 110, 105, 122, 101, 100, 45, 99, 104, 117, 110, 107]⟩, 4, 65531, 1, 0⟩,
  ⟨0, 7, ⟨#[105, 110, 118, 97, 108, 105, 100, 45, 112, 97, 114, 97, 109, 101, 116, 101, 114]⟩, 0, 0, 1, 0⟩,
  ⟨0, 8, ⟨#[117, 110, 114, 101, 99, 111, 103, 110, 105, 122, 101, 100, 45, 112, 97, 114, 97, 109, 101, 116, 101, 114, 115]⟩, 0, 0, 1, 2⟩,
  ⟨0, 9, ⟨#[110, 111, 45, 117, 115, 101, 114, 45, 100, 97, 116, 97]⟩, 4, 4, 1, 0⟩,
  ⟨0, 10, ⟨#[99, 111, 111, 107, 105, 101, 45, 119, 104, 105, 108, 101, 45, 115, 104, 117, 116, 116, 105, 110, 103, 45, 100, 111, 119, 110]⟩, 0, 0, 1, 0⟩,
  ⟨0, 11, ⟨#[114, 101, 115, 116, 97, 114, 116]⟩, 0, 0, 1, 2⟩,
  ⟨0, 12, ⟨#[117, 115, 101, 114, 45, 97, 98, 111, 114, 116]⟩, 0, 65531, 1, 0⟩,
  ⟨0, 13, ⟨#[112, 114, 111, 116, 111, 99, 111, 108, 45, 118, 105, 111, 108, 97, 116, 105, 111, 110]⟩, 0, 65531, 1, 0⟩,
  ⟨0, 160, ⟨#[100, 101, 108, 101, 116, 101, 45, 108, 97, 115, 116, 45, 97, 100, 100, 114, 101, 115, 115]⟩, 0, 0, 1, 1⟩,
  ⟨0, 161, ⟨#[114, 101, 115, 111, 117, 114, 99, 101, 45, 115, 104, 111, 114, 116, 97, 103, 101]⟩, 0, 65531, 1, 0⟩,
  ⟨0, 162, ⟨#[100, 101, 108, 101, 116, 101, 45, 115, 111, 117, 114, 99, 101, 45, 97, 100, 100, 114, 101, 115, 115]⟩, 0, 0, 1, 1⟩,
  ⟨0, 163, ⟨#[105, 108, 108, 101, 103, 97, 108, 45, 97, 115, 99, 111, 110, 102, 45, 97, 99, 107]⟩, 0, 65531, 1, 0⟩,
  ⟨0, 164, ⟨#[110, 111, 45, 97, 117, 116, 104, 111, 114, 105, 122, 97, 116, 105, 111, 110]⟩, 0, 65531, 1, 0⟩,
  ⟨0, 261, ⟨#[117, 110, 115, 117, 112, 112, 111, 114, 116, 101, 100, 45, 104, 109, 97, 99]⟩, 2, 2, 1, 0⟩]
def formsN : Nat → List ShForm
  | 1 => paramForms
  | 2 => causeForms
  | _ => []
def formsA (l : List ShForm) : List AV := l.map formA
@[push_cast] theorem formsA_len (l : List ShForm) : (formsA l).length = l.length := by simp [formsA]
theorem formsA_at (l : List ShForm) (i : Nat) (h : i < l.length) : (formsA l)[i]? = some (formA l[i]) := by simp [formsA, h]
@[push_cast] theorem formsA_ids (p : Nat → Bool) (l : List ShForm) : AV.idsOkL p (formsA l) = true := by
  rw [AV.idsOkL_iff]; intro x hx; simp only [formsA, List.mem_map] at hx; obtain ⟨f, _, rfl⟩ := hx; rfl
@[push_cast] theorem formsA_hand (ids : List Nat) (l : List ShForm) : AV.handL ids (formsA l) = formsA l := by
  rw [AV.handL_map, formsA, List.map_map]; rfl
/-- a form as a value -/
def formV (c : Nat) (f : ShForm) : Value := .agg #[.int .i64 (N c), .int .u16 (N f.ty), .string f.name, .int .i64 (N f.least), .int .i64 (N f.most), .int .i64 (N f.unit), .int .i64 (N f.kids)]
def entryV (c : Nat) (f : ShForm) : Value × Value := (.int .u16 (N f.ty), formV c f)
def zeroForm : ShForm := ⟨0, 0, ⟨#[]⟩, 0, 0, 0, 0⟩
/-- the form of a type; a zero form if there is none -/
def shapeOf (c t : Nat) : ShForm := (((formsN c).find? fun f => f.ty == t).map fun f => { f with cls := c }).getD zeroForm
def shapeHas (c t : Nat) : Bool := ((formsN c).find? fun f => f.ty == t).isSome
theorem mpFree_entries (c n : Nat) : ∀ l : List ShForm, (∀ f ∈ l, f.ty ≠ n) → mpFree .u16 (N n) (l.map (entryV c)) = true
  | [], _ => rfl
  | f :: l, h => by
    simp only [List.map_cons, entryV, mpFree, Bool.and_eq_true, decide_eq_true_eq]
    refine ⟨⟨trivial, ?_⟩, mpFree_entries c n l fun g hg => h g (by simp [hg])⟩
    rw [ne_eq, N_inj]; exact h f (by simp)
theorem mpFind_entries (c n : Nat) : ∀ l : List ShForm, mpFind .u16 (N n) (l.map (entryV c)) = some ((l.find? fun f => f.ty == n).map (formV c))
  | [] => rfl
  | f :: l => by
    simp only [List.map_cons, entryV, mpFind, if_true, N_inj, List.find?_cons]
    by_cases h : f.ty = n
    · simp [h]
    · have h' : (f.ty == n) = false := by simpa using h
      simp only [h, if_false, h', mpFind_entries c n l]
theorem forms_nodup (c : Nat) : ((formsN c).map (·.ty)).Nodup := by
  match c with
  | 0 => decide
  | 1 => decide
  | 2 => decide
  | _ + 3 => exact List.nodup_nil
theorem forms_free (c i : Nat) (h : i < (formsN c).length) : ∀ f ∈ (formsN c).take i, f.ty ≠ (formsN c)[i].ty := by
  intro f hf he
  have hn := forms_nodup c
  obtain ⟨j, hj, rfl⟩ := List.getElem_of_mem hf
  rw [List.length_take] at hj
  rw [List.getElem_take] at he
  have h1 : j = i := (List.getElem_inj (xs := (formsN c).map (·.ty)) (i := j) (j := i) (h₀ := by simp; omega) (h₁ := by simpa using h) hn).1 (by simpa using he)
  omega
end Go.Abs
namespace Go.Proofs.YtoapdhogghbojaaDoor.C
open Go.Abs
set_option maxRecDepth 100000 in
set_option maxHeartbeats 1000000 in
theorem table_c : PC Tryd.prog 82 [] (.agg [.val (.slice none 0 0), .sl false 7 (formsA paramForms), .sl false 7 (formsA causeForms)]) := by
  refine PC.of_bodyW (by simp only [push_cast]) Tryd.func82 rfl (by rw [Tryd.ntmps82]; simp) ?_
  refine AWp.regionW ?_
  refine AWp.regionW ?_
  refine AWp.ret ?_
  try simp only [thenQ, blockQ, noGo]
  refine bodyQ.m ?_
  simp only [formsA, paramForms, causeForms, List.map_cons, List.map_nil]
  first | done | exact Hand.go
theorem forms_c (c : Nat) (hc : c = 1 ∨ c = 2) : OC Tryd.prog 80 [nat c] [] (.own 0) [.mp ((formsN c).map (entryV c))] := by
  have hc3 : c < 3 := by omega
  have hl : (formsN c).length < 2 ^ 60 := by rcases hc with rfl | rfl <;> decide
  refine OC.of_body [0] (by intro k hk; simp at hk) Tryd.func80 rfl (by rw [Tryd.ntmps80]; simp) ?_
  refine AWp.regionW ?_
  refine AWp.regionM fun K1 hK1 => ?_
  refine ARun2.makeMapM ?_
  refine ARun2.endm (hK1 _ ?_)
  refine AWp.seqK fun K2 hK2 => ?_
  refine AWp.regionM fun K3 hK3 => ?_
  refine ARun2.callM (table_c) ?_
  refine ARun2.endm (hK3 _ ?_)
  refine AWp.condF ?_ (by simp only [push_cast, ↓reduceIte, Nat.reduceEqDiff, Nat.reduceLT, Nat.reduceAdd, Nat.reduceSub, Nat.reduceMul, Nat.reduceLeDiff, Nat.reducePow, Int.reduceLT, Int.reduceToNat, reduceCtorEq, Int.reduceNeg, Int.reduceEq, Nat.reduceBEq, Nat.reduceBNe, Int.reduceBEq, Int.reduceBNe, String.reduceEq]; rw [decide_eq_false (by omega)])
  refine AWp.skip ?_
  refine hK2 _ ?_
  refine AWp.seqK fun K4 hK4 => ?_
  refine AWp.regionM fun K5 hK5 => ?_
  refine ARun2.callM (table_c) ?_
  refine ARun2.aindexM (c) (.sl false 7 (formsA (formsN c))) ?_ ?_
  · rw [YtoapdhogghbojaaDoor.Facts.tk167]; rcases hc with rfl | rfl <;> rfl
  refine ARun2.endm (hK5 _ ?_)
  refine AWp.block ?_
  refine AWp.loopK [0, 3, 18, 19] (fun (i : Nat) => [(20, nat i)]) (fun i => [.mp (((formsN c).take i).map (entryV c))]) (fun i => i ≤ (formsN c).length) (fun i => (formsN c).length - i) (0) ?_ (Nat.zero_le _) ?_
  · skip
    refine Le.m 1 ?_ ?_
    · first | with_reducible rfl | (simp only [push_cast, ↓reduceIte, Nat.reduceEqDiff, Nat.reduceLT, Nat.reduceAdd, Nat.reduceSub, Nat.reduceMul, Nat.reduceLeDiff, Nat.reducePow, Int.reduceLT, Int.reduceToNat, reduceCtorEq, Int.reduceNeg, Int.reduceEq, Nat.reduceBEq, Nat.reduceBNe, Int.reduceBEq, Int.reduceBNe, String.reduceEq]; first | done | rfl | (simp (disch := omega) only [w_nat, w_add, w_addl, w_addr, w_sub, w_subl, w_mul, w_mull, w_mulr, w_u32, w_u16, w_u8, w_u32a, N_zero]; first | done | rfl))
    · first | (simp only [push_cast, ↓reduceIte, Nat.reduceEqDiff, Nat.reduceLT, Nat.reduceAdd, Nat.reduceSub, Nat.reduceMul, Nat.reduceLeDiff, Nat.reducePow, Int.reduceLT, Int.reduceToNat, reduceCtorEq, Int.reduceNeg, Int.reduceEq, Nat.reduceBEq, Nat.reduceBNe, Int.reduceBEq, Int.reduceBNe, String.reduceEq]; first | done | rfl | (simp (disch := omega) only [w_nat, w_add, w_addl, w_addr, w_sub, w_subl, w_mul, w_mull, w_mulr, w_u32, w_u16, w_u8, w_u32a, N_zero]; first | done | rfl))
  · intro i hi K6 hK6
    refine AWp.regionW ?_
    refine AWp.seqK fun K7 hK7 => ?_
    refine AWp.condLM (fun c1 => ?_) (fun c1 => ?_)
    · skip
      have hil : i < (formsN c).length := by simpa using c1
      refine AWp.skip ?_
      refine hK7 _ ?_
      refine AWp.seqK fun K8 hK8 => ?_
      refine AWp.block ?_
      refine AWp.regionM fun K9 hK9 => ?_
      refine ARun2.indexM (i) (formA (formsN c)[i]) ?_ ?_
      · exact formsA_at _ _ hil
      refine ARun2.endm (hK9 _ ?_)
      refine AWp.regionW ?_
      refine AWp.regionN fun K10 hK10 => ?_
      refine ARun2.mapUpdateM ?_ ?_
      · exact mpFree_entries c _ _ (forms_free c i hil)
      refine ARun2.endm (hK10 _ ?_)
      refine hK8 _ ?_
      refine AWp.regionV ?_
      refine hK6 _ (i + 1) (by omega) (by omega) ?_
      refine Le.m 1 ?_ ?_
      · try simp only [push_cast, ↓reduceIte, Nat.reduceEqDiff, Nat.reduceLT, Nat.reduceAdd, Nat.reduceSub, Nat.reduceMul, Nat.reduceLeDiff, Nat.reducePow, Int.reduceLT, Int.reduceToNat, reduceCtorEq, Int.reduceNeg, Int.reduceEq, Nat.reduceBEq, Nat.reduceBNe, Int.reduceBEq, Int.reduceBNe, String.reduceEq]
        try simp (disch := omega) only [w_nat, w_add, w_addl, w_addr, w_sub, w_subl, w_mul, w_mull, w_mulr, w_u32, w_u16, w_u8, w_u32a, N_zero]
        first | done | skip
        rw [List.take_succ_eq_append_getElem hil, List.map_append]; rfl
      · first | (simp only [push_cast, ↓reduceIte, Nat.reduceEqDiff, Nat.reduceLT, Nat.reduceAdd, Nat.reduceSub, Nat.reduceMul, Nat.reduceLeDiff, Nat.reducePow, Int.reduceLT, Int.reduceToNat, reduceCtorEq, Int.reduceNeg, Int.reduceEq, Nat.reduceBEq, Nat.reduceBNe, Int.reduceBEq, Int.reduceBNe, String.reduceEq]; first | done | rfl | (simp (disch := omega) only [w_nat, w_add, w_addl, w_addr, w_sub, w_subl, w_mul, w_mull, w_mulr, w_u32, w_u16, w_u8, w_u32a, N_zero]; first | done | rfl))
    · skip
      have hil : i = (formsN c).length := by simp at c1; omega
      refine AWp.exit ?_
      try simp only [thenQ, blockQ, noGo, reduceIte, Nat.reduceEqDiff]
      refine hK4 _ ?_
      refine AWp.regionW ?_
      refine AWp.ret ?_
      try simp only [thenQ, blockQ, noGo]
      refine bodyQ.m ?_
      clear hK7 K7 hK6 K6 hK5 K5 hK4 K4 hK3 K3 hK2 K2 hK1 K1
      refine endO.m ?_ ?_
      · rw [hil, List.take_length]
      · skip
        first | done | exact Hand.go
theorem of_c (c t : Nat) (hc : c = 1 ∨ c = 2) : PC Tryd.prog 68 [nat c, u16 t] (.tup [formA (shapeOf c t), bool (shapeHas c t)]) := by
  refine PC.of_bodyW (by simp only [push_cast]) Tryd.func68 rfl (by rw [Tryd.ntmps68]; simp) ?_
  refine AWp.regionW ?_
  refine AWp.regionM fun K1 hK1 => ?_
  refine ARun2.callOM [] (forms_c c hc) ?_
  refine ARun2.lookupM (((formsN c).find? fun f => f.ty == t).map (formV c)) (formA (shapeOf c t)) ?_ ?_ ?_
  · exact mpFind_entries c t _
  · simp only [shapeOf]; cases (formsN c).find? (fun f => f.ty == t) <;> rfl
  refine ARun2.endm (hK1 _ ?_)
  refine AWp.regionW ?_
  refine AWp.ret ?_
  try simp only [thenQ, blockQ, noGo]
  refine bodyQ.m ?_
  clear hK1 K1
  simp only [shapeHas, Option.isSome_map]
  first | done | exact Hand.go
end Go.Proofs.YtoapdhogghbojaaDoor.C
/- node: Size. -/
set_option linter.unusedVariables false
set_option linter.unusedSimpArgs false
namespace Go.Abs
mutual
def GNode.wt : GNode → Nat
  | .mk _ _ k => wts k + 1
def wts : List GNode → Nat
  | [] => 0
  | n :: l => n.wt + wts l
end
theorem GNode.wt_eq (n : GNode) : n.wt = wts n.kids + 1 := by cases n; simp [GNode.wt, GNode.kids]
theorem wts_mem : ∀ {l : List GNode} {n : GNode}, n ∈ l → n.wt ≤ wts l
  | [], n, h => by simp at h
  | m :: l, n, h => by
    rcases List.mem_cons.1 h with h | h
    · subst h; simp only [wts]; omega
    · have := wts_mem h; simp only [wts]; omega
theorem kids_lt {l : List GNode} {n : GNode} (h : n ∈ l) : wts n.kids < wts l := by
  have := wts_mem h; rw [GNode.wt_eq] at this; omega
end Go.Abs
namespace Go.Proofs.YtoapdhogghbojaaDoor.C
open Go.Abs
mutual
/-- the length of a node's value -/
def vlen : GNode → Nat
  | .mk _ d k => d.length + tlvSize (nLens k)
def nLens : List GNode → List Nat
  | [] => []
  | n :: l => vlen n :: nLens l
end
/-- the size of a list of nodes -/
def nSize (l : List GNode) : Nat := tlvSize (nLens l)
theorem nLens_map : ∀ l : List GNode, nLens l = l.map vlen
  | [] => by simp [nLens]
  | n :: l => by simp [nLens, nLens_map l]
theorem vlen_eq (n : GNode) : vlen n = n.data.length + nSize n.kids := by cases n; simp [vlen, nSize, GNode.data, GNode.kids]
theorem sumUp_mem : ∀ {l : List Nat} {s n : Nat}, n ∈ l → n ≤ sumUp s l
  | [], s, n, h => by simp at h
  | m :: l, s, n, h => by
    simp only [sumUp]
    rcases List.mem_cons.1 h with h | h
    · subst h; exact Nat.le_trans (by omega) (le_sumUp l _)
    · exact sumUp_mem h
theorem sumUp_len : ∀ (l : List Nat) (s : Nat), s + 4 * l.length ≤ sumUp s (l.map (4 + ·))
  | [], s => by simp [sumUp]
  | n :: l, s => by
    have := sumUp_len l (upN s + (4 + n))
    simp only [List.map_cons, sumUp, List.length_cons, upN] at *
    omega
theorem tlvSize_mem {l : List Nat} {n : Nat} (h : n ∈ l) : 4 + n ≤ tlvSize l := sumUp_mem (List.mem_map.2 ⟨n, h, rfl⟩)
theorem tlvSize_len (l : List Nat) : 4 * l.length ≤ tlvSize l := by have := sumUp_len l 0; simpa [tlvSize] using this
theorem vlen_mem {l : List GNode} {n : GNode} (h : n ∈ l) : 4 + vlen n ≤ nSize l := tlvSize_mem (by rw [nLens_map]; exact List.mem_map.2 ⟨n, h, rfl⟩)
theorem nSize_len (l : List GNode) : 4 * l.length ≤ nSize l := by have := tlvSize_len (nLens l); rw [nLens_map, List.length_map] at this; rw [nSize, nLens_map]; exact this
theorem nSize_kids {l : List GNode} {n : GNode} (h : n ∈ l) : nSize n.kids ≤ nSize l := by have := vlen_mem h; rw [vlen_eq] at this; omega
/-- a frame of zeros in place of a node -/
def zf (n : GNode) : Frm := ⟨0, List.replicate (vlen n) 0⟩
theorem size_step (w : Nat) (ih : ∀ l : List GNode, wts l < w → nSize l ≤ 2 ^ 30 → PC Tryd.prog 27 [.sl false 3 (nodesA false l)] (nat (nSize l))) (l : List GNode) (hw : wts l ≤ w) (hs : nSize l ≤ 2 ^ 30) :
    PC Tryd.prog 27 [.sl false 3 (nodesA false l)] (nat (nSize l)) := by
  have hlen := nSize_len l
  refine PC.of_bodyW (by simp only [push_cast]) Tryd.func27 rfl (by rw [Tryd.ntmps27]; simp) ?_
  refine AWp.regionW ?_
  refine AWp.regionW ?_
  refine AWp.seqK fun K1 hK1 => ?_
  refine AWp.regionW ?_
  refine AWp.block ?_
  -- SLOTS THAT TURN AND ARE NOT TOLD: [3]
  refine AWp.nilOwn 3 95 2 (by simp only [push_cast, ↓reduceIte, Nat.reduceEqDiff, Nat.reduceLT, Nat.reduceAdd, Nat.reduceSub, Nat.reduceMul, Nat.reduceLeDiff, Nat.reducePow, Int.reduceLT, Int.reduceToNat, reduceCtorEq, Int.reduceNeg, Int.reduceEq, Nat.reduceBEq, Nat.reduceBNe, Int.reduceBEq, Int.reduceBNe, String.reduceEq]) ?_
  simp only [push_cast, ↓reduceIte, Nat.reduceEqDiff, Nat.reduceLT, Nat.reduceAdd, Nat.reduceSub, Nat.reduceMul, Nat.reduceLeDiff, Nat.reducePow, Int.reduceLT, Int.reduceToNat, reduceCtorEq, Int.reduceNeg, Int.reduceEq, Nat.reduceBEq, Nat.reduceBNe, Int.reduceBEq, Int.reduceBNe, String.reduceEq]
  refine AWp.loopK [3, 6, 7] (fun (i : Nat) => [(8, nat i)]) (fun i => [.row 95 2 (frmsA true ((l.take i).map zf))]) (fun i => i ≤ l.length) (fun i => l.length - i) (0) ?_ (Nat.zero_le _) ?_
  · skip
    refine Le.m 1 ?_ ?_
    · try simp only [push_cast, ↓reduceIte, Nat.reduceEqDiff, Nat.reduceLT, Nat.reduceAdd, Nat.reduceSub, Nat.reduceMul, Nat.reduceLeDiff, Nat.reducePow, Int.reduceLT, Int.reduceToNat, reduceCtorEq, Int.reduceNeg, Int.reduceEq, Nat.reduceBEq, Nat.reduceBNe, Int.reduceBEq, Int.reduceBNe, String.reduceEq]
      try simp (disch := omega) only [w_nat, w_add, w_addl, w_addr, w_sub, w_subl, w_mul, w_mull, w_mulr, w_u32, w_u16, w_u8, w_u32a, N_zero]
      first | done | skip
      rfl
    · first | (simp only [push_cast, ↓reduceIte, Nat.reduceEqDiff, Nat.reduceLT, Nat.reduceAdd, Nat.reduceSub, Nat.reduceMul, Nat.reduceLeDiff, Nat.reducePow, Int.reduceLT, Int.reduceToNat, reduceCtorEq, Int.reduceNeg, Int.reduceEq, Nat.reduceBEq, Nat.reduceBNe, Int.reduceBEq, Int.reduceBNe, String.reduceEq]; first | done | rfl | (simp (disch := omega) only [w_nat, w_add, w_addl, w_addr, w_sub, w_subl, w_mul, w_mull, w_mulr, w_u32, w_u16, w_u8, w_u32a, N_zero]; first | done | rfl))
  · intro i hi K2 hK2
    refine AWp.regionW ?_
    refine AWp.seqK fun K3 hK3 => ?_
    refine AWp.condLM (fun c0 => ?_) (fun c0 => ?_)
    · skip
      have hil : i < l.length := by simpa using c0
      have hm := List.getElem_mem hil
      have hv := vlen_mem hm
      have he := vlen_eq l[i]
      have hk := nSize_kids hm
      refine AWp.skip ?_
      refine hK3 _ ?_
      refine AWp.seqK fun K4 hK4 => ?_
      refine AWp.block ?_
      refine AWp.regionM fun K5 hK5 => ?_
      refine ARun2.indexM (i) (nodeA false l[i]) ?_ ?_
      · exact nodesA_at _ _ _ hil
      refine ARun2.endm (hK5 _ ?_)
      refine AWp.drE [[(3, none)], [(5, none)], [(13, some 1)], [(14, some 2)], [(5, none)], [(16, some 4)], [(17, some 5)], [(15, some 3), (18, some 6)], [(19, some 7)], [(20, some 8)], [(21, some 9)]] fun G hG => ?_
      refine Dr.sim ?_
      try simp only [List.cons_append, List.nil_append]
      refine Dr.sim ?_
      try simp only [List.cons_append, List.nil_append]
      refine Dr.sim ?_
      try simp only [List.cons_append, List.nil_append]
      refine Dr.sim ?_
      try simp only [List.cons_append, List.nil_append]
      refine Dr.sim ?_
      try simp only [List.cons_append, List.nil_append]
      refine Dr.sim ?_
      try simp only [List.cons_append, List.nil_append]
      refine Dr.call (ih l[i].kids (by have := kids_lt hm; omega) (by omega)) ?_
      try simp only [List.cons_append, List.nil_append]
      refine Dr.sim ?_
      try simp only [List.cons_append, List.nil_append]
      rw [← he]
      refine Dr.make (vlen l[i]) ?_ ?_
      · omega
      try simp only [List.cons_append, List.nil_append]
      refine Dr.sim ?_
      try simp only [List.cons_append, List.nil_append]
      refine Dr.build ?_
      try simp only [List.cons_append, List.nil_append]
      refine Dr.finN (n := 11) [(12, 0), (22, 10)] [6, 7, 8] hG YtoapdhogghbojaaDoor.Facts.mixed fun KD hKD => ?_
      refine ARun2.appendM ?_ ?_ ?_
      · rw [YtoapdhogghbojaaDoor.Facts.eb93, frmsA_len, List.length_map, List.length_take, List.length_cons, List.length_nil]; omega
      · rw [frmsA_len, List.length_map, List.length_take, List.length_cons, List.length_nil]; omega
      refine ARun2.endm (hKD _ ?_); clear hKD KD hG G
      refine hK4 _ ?_
      refine AWp.regionV ?_
      refine hK2 _ (i + 1) (by omega) (by omega) ?_
      refine Le.m 1 ?_ ?_
      · try simp only [push_cast, ↓reduceIte, Nat.reduceEqDiff, Nat.reduceLT, Nat.reduceAdd, Nat.reduceSub, Nat.reduceMul, Nat.reduceLeDiff, Nat.reducePow, Int.reduceLT, Int.reduceToNat, reduceCtorEq, Int.reduceNeg, Int.reduceEq, Nat.reduceBEq, Nat.reduceBNe, Int.reduceBEq, Int.reduceBNe, String.reduceEq]
        try simp (disch := omega) only [w_nat, w_add, w_addl, w_addr, w_sub, w_subl, w_mul, w_mull, w_mulr, w_u32, w_u16, w_u8, w_u32a, N_zero]
        first | done | skip
        rw [List.take_succ_eq_append_getElem hil, List.map_append]; simp [frmsA, frmA, zf, N]
      · first | (simp only [push_cast, ↓reduceIte, Nat.reduceEqDiff, Nat.reduceLT, Nat.reduceAdd, Nat.reduceSub, Nat.reduceMul, Nat.reduceLeDiff, Nat.reducePow, Int.reduceLT, Int.reduceToNat, reduceCtorEq, Int.reduceNeg, Int.reduceEq, Nat.reduceBEq, Nat.reduceBNe, Int.reduceBEq, Int.reduceBNe, String.reduceEq]; first | done | rfl | (simp (disch := omega) only [w_nat, w_add, w_addl, w_addr, w_sub, w_subl, w_mul, w_mull, w_mulr, w_u32, w_u16, w_u8, w_u32a, N_zero]; first | done | rfl))
    · skip
      have hil : i = l.length := by simp at c0; omega
      subst hil
      refine AWp.exit ?_
      try simp only [thenQ, blockQ, noGo, reduceIte, Nat.reduceEqDiff]
      refine hK1 _ ?_
      refine AWp.pub 0 rfl (Nat.le_refl _) ?_
      simp only [push_cast, ↓reduceIte, Nat.reduceEqDiff, Nat.reduceLT, Nat.reduceAdd, Nat.reduceSub, Nat.reduceMul, Nat.reduceLeDiff, Nat.reducePow, Int.reduceLT, Int.reduceToNat, reduceCtorEq, Int.reduceNeg, Int.reduceEq, Nat.reduceBEq, Nat.reduceBNe, Int.reduceBEq, Int.reduceBNe, String.reduceEq, List.take_length]
      refine AWp.regionM fun K6 hK6 => ?_
      have hz : tlvSize ((l.map zf).map fun f => f.val.length) = nSize l := by rw [nSize, nLens_map]; simp [List.map_map, Function.comp_def, zf]
      refine ARun2.callM (tlvSize_c (l.map zf) (by have := hz; omega) (by rw [List.length_map]; omega) (by intro f hf; obtain ⟨n, hn, rfl⟩ := List.mem_map.1 hf; have := vlen_mem hn; simp [zf]; omega)) ?_
      refine ARun2.endm (hK6 _ ?_)
      refine AWp.ret ?_
      try simp only [thenQ, blockQ, noGo]
      refine bodyQ.m ?_
      clear hK6 K6 hK3 K3 hK2 K2 hK1 K1
      rw [hz]
      first | done | exact Hand.go
theorem size_w : ∀ (w : Nat) (l : List GNode), wts l ≤ w → nSize l ≤ 2 ^ 30 → PC Tryd.prog 27 [.sl false 3 (nodesA false l)] (nat (nSize l)) := by
  intro w
  induction w with
  | zero => exact size_step 0 (fun l h => by omega)
  | succ w ih => exact size_step (w + 1) (fun l h => ih l (by omega))
theorem size_c (l : List GNode) (hs : nSize l ≤ 2 ^ 30) : PC Tryd.prog 27 [.sl false 3 (nodesA false l)] (nat (nSize l)) := size_w _ l (Nat.le_refl _) hs
end Go.Proofs.YtoapdhogghbojaaDoor.C
/- node: check. -/
set_option linter.unusedVariables false
set_option linter.unusedSimpArgs false
namespace Go.Proofs.YtoapdhogghbojaaDoor.C
open Go.Abs
/-- an error that is a code; 0: none -/
def errA (e : Nat) : AV := bif e == 0 then .val .nilIface else .ifc 87 (.val (.int .i64 (N e)))
@[push_cast] theorem nilIs_err (e : Nat) : nilIs .ifc (errA e) = some (e == 0) := by
  unfold errA; cases e == 0 <;> rfl
@[push_cast] theorem err_ids (p : Nat → Bool) (e : Nat) : (errA e).idsOk p = true := by unfold errA; cases e == 0 <;> rfl
@[push_cast] theorem err_hand (ids : List Nat) (e : Nat) : (errA e).hand ids = errA e := by unfold errA; cases e == 0 <;> rfl
@[push_cast] theorem err_one (e : Nat) : (errA e).one = true := by unfold errA; cases e == 0 <;> rfl
@[push_cast] theorem err_flat (e : Nat) : (errA e).flat = true := by unfold errA; cases e == 0 <;> rfl
@[push_cast] theorem err_cells (e : Nat) : (errA e).cells = [errA e] := by unfold errA; cases e == 0 <;> rfl
/-- is the form of a node wrong? -/
def badN (c t len : Nat) (k : List GNode) : Bool :=
  (!shapeHas c t && decide (0 < k.length)) || (shapeHas c t && (!fitsN (shapeOf c t) len || !kidsOk (shapeOf c t) k))
mutual
/-- the code of a node's error; 0: none -/
def checkN (c dp : Nat) : GNode → Nat
  | .mk t d k =>
    if 4 < dp then 9 else if badN c t d.length k = true then 7 else if countedN c t d = true then 8
    else if checkL (insideN (shapeOf c t).kids).1 (dp + 1) k ≠ 0 then checkL (insideN (shapeOf c t).kids).1 (dp + 1) k
    else if 65535 < nSize [.mk t d k] then 4 else 0
/-- the first error of some nodes -/
def checkL (c dp : Nat) : List GNode → Nat
  | [] => 0
  | n :: l => if checkN c dp n ≠ 0 then checkN c dp n else checkL c dp l
end
theorem checkN_eq (c dp : Nat) (n : GNode) : checkN c dp n =
    if 4 < dp then 9 else if badN c n.ty n.data.length n.kids = true then 7 else if countedN c n.ty n.data = true then 8
    else if checkL (insideN (shapeOf c n.ty).kids).1 (dp + 1) n.kids ≠ 0 then checkL (insideN (shapeOf c n.ty).kids).1 (dp + 1) n.kids
    else if 65535 < nSize [n] then 4 else 0 := by
  cases n; simp only [checkN, GNode.ty, GNode.data, GNode.kids]; rfl
theorem checkL_snoc (c dp : Nat) (n : GNode) : ∀ l : List GNode, checkL c dp (l ++ [n]) = if checkL c dp l ≠ 0 then checkL c dp l else checkN c dp n
  | [] => by
    simp only [List.nil_append, checkL]
    by_cases h : checkN c dp n = 0 <;> simp [h]
  | m :: l => by
    simp only [List.cons_append, checkL, checkL_snoc c dp n l]
    by_cases h : checkN c dp m = 0 <;> simp [h]
theorem checkL_app (c dp : Nat) (r : List GNode) : ∀ l : List GNode, checkL c dp l ≠ 0 → checkL c dp (l ++ r) = checkL c dp l
  | [], h => by simp [checkL] at h
  | m :: l, h => by
    simp only [List.cons_append, checkL] at h ⊢
    by_cases hm : checkN c dp m = 0
    · simp only [hm, ne_eq, not_true_eq_false, if_false] at h ⊢
      exact checkL_app c dp r l h
    · simp [hm]
theorem checkL_at (c dp : Nat) (l : List GNode) (i : Nat) (hil : i < l.length) (h0 : checkL c dp (l.take i) = 0) (h : checkN c dp l[i] ≠ 0) : checkL c dp l = checkN c dp l[i] := by
  have e := checkL_snoc c dp l[i] (l.take i)
  rw [h0, ← List.take_succ_eq_append_getElem hil] at e
  simp only [ne_eq, not_true_eq_false, if_false] at e
  have e2 := checkL_app c dp (l.drop (i + 1)) (l.take (i + 1)) (by rw [e]; exact h)
  rw [List.take_append_drop] at e2
  exact e2.trans e
theorem form_ok (c t : Nat) (h : shapeHas c t = true) : 0 < (shapeOf c t).unit ∧ (shapeOf c t).unit < 2 ^ 60 ∧ (shapeOf c t).least < 2 ^ 60 := by
  have key : ∀ l : List ShForm, (∀ f ∈ l, 0 < f.unit ∧ f.unit < 2 ^ 60 ∧ f.least < 2 ^ 60) → (l.find? fun f => f.ty == t).isSome = true →
      0 < (((l.find? fun f => f.ty == t).map fun f => { f with cls := c }).getD zeroForm).unit ∧ (((l.find? fun f => f.ty == t).map fun f => { f with cls := c }).getD zeroForm).unit < 2 ^ 60 ∧ (((l.find? fun f => f.ty == t).map fun f => { f with cls := c }).getD zeroForm).least < 2 ^ 60 := by
    intro l hl hs
    cases hf : l.find? (fun f => f.ty == t) with
    | none => simp [hf] at hs
    | some f => simpa using hl f (List.mem_of_find?_eq_some hf)
  refine key (formsN c) ?_ h
  match c with
  | 0 => intro f hf; simp [formsN] at hf
  | 1 => decide
  | 2 => decide
  | _ + 3 => intro f hf; simp [formsN] at hf
theorem form_kids (c t : Nat) : (shapeOf c t).kids < 2 ^ 60 := by
  have key : ∀ l : List ShForm, (∀ f ∈ l, f.kids < 2 ^ 60) → (((l.find? fun f => f.ty == t).map fun f => { f with cls := c }).getD zeroForm).kids < 2 ^ 60 := by
    intro l hl
    cases hf : l.find? (fun f => f.ty == t) with
    | none => simp [zeroForm]
    | some f => simpa using hl f (List.mem_of_find?_eq_some hf)
  refine key (formsN c) ?_
  match c with
  | 0 => intro f hf; simp [formsN] at hf
  | 1 => decide
  | 2 => decide
  | _ + 3 => intro f hf; simp [formsN] at hf
/-- right nodes with nodes inside say what class these have -/
theorem inside_class (c t len : Nat) (k : List GNode) (h : badN c t len k = false) (hk : 0 < k.length) : (insideN (shapeOf c t).kids).1 = 1 ∨ (insideN (shapeOf c t).kids).1 = 2 := by
  unfold badN at h
  have hd : decide (0 < k.length) = true := by simpa using hk
  rw [hd] at h
  cases hs : shapeHas c t with
  | false => simp [hs] at h
  | true =>
    simp only [hs, Bool.not_true, Bool.false_and, Bool.false_or, Bool.true_and, Bool.or_eq_false_iff, Bool.not_eq_false'] at h
    have hkk := h.2
    unfold kidsOk insideN at hkk
    unfold insideN
    by_cases h1 : (shapeOf c t).kids = 1 ∨ (shapeOf c t).kids = 4
    · simp [h1]
    · by_cases h2 : (shapeOf c t).kids = 2
      · simp [h2]
      · by_cases h3 : (shapeOf c t).kids = 3
        · simp [h3]
        · simp [h1, h2, h3] at hkk
          rw [hkk.1] at hk
          simp at hk
theorem nSize_kids1 (n : GNode) : nSize n.kids ≤ nSize [n] := nSize_kids (by simp)
theorem nSize_one {l : List GNode} {n : GNode} (h : n ∈ l) : nSize [n] ≤ nSize l := by
  have := vlen_mem h
  have e : nSize [n] = 4 + vlen n := by simp [nSize, nLens, tlvSize, sumUp, upN, gapN]
  omega
theorem nSize_data (n : GNode) : n.data.length ≤ nSize [n] := by
  have e : nSize [n] = 4 + vlen n := by simp [nSize, nLens, tlvSize, sumUp, upN, gapN]
  rw [vlen_eq] at e; omega
theorem check_step (w : Nat) (ih : ∀ (c dp : Nat) (n : GNode), n.wt < w → (c = 1 ∨ c = 2) → dp < 2 ^ 60 → nSize [n] ≤ 2 ^ 30 → PC Tryd.prog 59 [nat c, nodeA false n, nat dp] (errA (checkN c dp n)))
    (c dp : Nat) (n : GNode) (hw : n.wt ≤ w) (hc : c = 1 ∨ c = 2) (hdp : dp < 2 ^ 60) (hs : nSize [n] ≤ 2 ^ 30) : PC Tryd.prog 59 [nat c, nodeA false n, nat dp] (errA (checkN c dp n)) := by
  have hkl := nSize_len n.kids
  have hk1 := nSize_kids1 n
  have hdl := nSize_data n
  refine PC.of_bodyW (by simp only [push_cast]) Tryd.func59 rfl (by rw [Tryd.ntmps59]; simp) ?_
  refine AWp.regionW ?_
  refine AWp.seqK fun K1 hK1 => ?_
  refine AWp.regionW ?_
  refine AWp.condLM (fun c0 => ?_) (fun c0 => ?_)
  · skip
    have h0 : 4 < dp := by simpa using c0
    refine AWp.regionW ?_
    refine AWp.ret ?_
    try simp only [thenQ, blockQ, noGo]
    refine bodyQ.m ?_
    clear hK1 K1
    rw [checkN_eq, if_pos h0]
    first | done | exact Hand.go
  · skip
    have h0 : ¬ 4 < dp := by simpa using c0
    refine AWp.skip ?_
    refine hK1 _ ?_
    refine AWp.regionM fun K2 hK2 => ?_
    refine ARun2.callM (of_c c n.ty hc) ?_
    refine ARun2.endm (hK2 _ ?_)
    refine AWp.seqK fun K3 hK3 => ?_
    refine AWp.block ?_
    refine AWp.seqK fun K4 hK4 => ?_
    refine AWp.regionA fun K5 hK5 => ?_
    refine ARun.segm 3 fun KS hKS => ?_
    refine ARun2.endm (hKS _ ?_); clear hKS KS
    apply ARun.grpM 4 2 true 32 [0, 2, 4, 7, 8, 28]
    · intro g2 KG hKG
      refine ARun2.gom ?_
      exact ARun2.endm (hKG _ Le.grpM)
    refine ARun2.gom ?_
    refine ARun2.endm (hK5 _ ?_)
    refine AWp.condLM (fun c1 => ?_) (fun c1 => ?_)
    · skip
      refine AWp.skip ?_
      refine hK4 _ ?_
      refine AWp.condT ?_
      have hb : badN c n.ty n.data.length n.kids = true := by unfold badN; simp_all
      refine AWp.regionW ?_
      refine AWp.ret ?_
      try simp only [thenQ, blockQ, noGo]
      refine bodyQ.m ?_
      clear hK5 K5 hK4 K4 hK3 K3 hK2 K2 hK1 K1
      rw [checkN_eq, if_neg h0, if_pos hb]
      first | done | exact Hand.go
    · skip
      refine AWp.regionB fun K6 hK6 => ?_
      refine ARun.segm 2 fun KS hKS => ?_
      refine ARun2.endm (hKS _ ?_); clear hKS KS
      apply ARun.grpM 13 1 true 48 [0, 2, 4, 7, 35]
      · intro g1 KG hKG
        have hf := form_ok c n.ty g1
        refine ARun.segm 7 fun KS hKS => ?_
        refine ARun2.callM (fits_c (shapeOf c n.ty) n.data.length (by omega) hf.2.2 hf.1 hf.2.1) ?_
        refine ARun2.endm (hKS _ ?_); clear hKS KS
        apply ARun.grpM 5 8 false 47 [0, 2, 4, 7, 35, 42]
        · intro g8 KG hKG
          refine ARun2.gom ?_
          refine ARun2.callM (kids_c (shapeOf c n.ty) n.kids (by omega) (form_kids c n.ty)) ?_
          exact ARun2.endm (hKG _ Le.grpM)
        refine ARun2.gom ?_
        exact ARun2.endm (hKG _ Le.grpM)
      refine ARun2.gom ?_
      refine ARun2.endm (hK6 _ ?_)
      refine hK4 _ ?_
      refine AWp.condLM (fun c2 => ?_) (fun c2 => ?_)
      · skip
        have hb : badN c n.ty n.data.length n.kids = true := by unfold badN; simp_all
        refine AWp.regionW ?_
        refine AWp.ret ?_
        try simp only [thenQ, blockQ, noGo]
        refine bodyQ.m ?_
        clear hK6 K6 hK5 K5 hK4 K4 hK3 K3 hK2 K2 hK1 K1
        rw [checkN_eq, if_neg h0, if_pos hb]
        first | done | exact Hand.go
      · skip
        have hb : badN c n.ty n.data.length n.kids = false := by unfold badN; simp_all
        have hb' : ¬ badN c n.ty n.data.length n.kids = true := by rw [hb]; simp
        refine AWp.regionM fun K7 hK7 => ?_
        refine ARun2.callM (counted_c c n.ty n.data (by omega)) ?_
        refine ARun2.endm (hK7 _ ?_)
        refine AWp.condLM (fun c3 => ?_) (fun c3 => ?_)
        · skip
          have h3 : countedN c n.ty n.data = true := c3
          refine AWp.regionW ?_
          refine AWp.ret ?_
          try simp only [thenQ, blockQ, noGo]
          refine bodyQ.m ?_
          clear hK7 K7 hK6 K6 hK5 K5 hK4 K4 hK3 K3 hK2 K2 hK1 K1
          rw [checkN_eq, if_neg h0, if_neg hb', if_pos h3]
          first | done | exact Hand.go
        · skip
          have h3 : ¬ countedN c n.ty n.data = true := by rw [c3]; simp
          refine AWp.skip ?_
          refine hK3 _ ?_
          refine AWp.regionM fun K8 hK8 => ?_
          refine ARun2.callM (inside_c (shapeOf c n.ty).kids (form_kids c n.ty)) ?_
          refine ARun2.endm (hK8 _ ?_)
          refine AWp.seqK fun K9 hK9 => ?_
          refine AWp.regionW ?_
          refine AWp.block ?_
          refine AWp.loopK0 [2, 4, 9, 67, 68] (fun (i : Nat) => [(69, nat i)]) (fun i => i ≤ n.kids.length ∧ checkL (insideN (shapeOf c n.ty).kids).1 (dp + 1) (n.kids.take i) = 0) (fun i => n.kids.length - i) (0) ?_ ⟨Nat.zero_le _, rfl⟩ ?_
          · skip
            refine Le.m 2 ?_ ?_
            · first | with_reducible rfl | (simp only [push_cast, ↓reduceIte, Nat.reduceEqDiff, Nat.reduceLT, Nat.reduceAdd, Nat.reduceSub, Nat.reduceMul, Nat.reduceLeDiff, Nat.reducePow, Int.reduceLT, Int.reduceToNat, reduceCtorEq, Int.reduceNeg, Int.reduceEq, Nat.reduceBEq, Nat.reduceBNe, Int.reduceBEq, Int.reduceBNe, String.reduceEq]; first | done | rfl | (simp (disch := omega) only [w_nat, w_add, w_addl, w_addr, w_sub, w_subl, w_mul, w_mull, w_mulr, w_u32, w_u16, w_u8, w_u32a, N_zero]; first | done | rfl))
            · first | (simp only [push_cast, ↓reduceIte, Nat.reduceEqDiff, Nat.reduceLT, Nat.reduceAdd, Nat.reduceSub, Nat.reduceMul, Nat.reduceLeDiff, Nat.reducePow, Int.reduceLT, Int.reduceToNat, reduceCtorEq, Int.reduceNeg, Int.reduceEq, Nat.reduceBEq, Nat.reduceBNe, Int.reduceBEq, Int.reduceBNe, String.reduceEq]; first | done | rfl | (simp (disch := omega) only [w_nat, w_add, w_addl, w_addr, w_sub, w_subl, w_mul, w_mull, w_mulr, w_u32, w_u16, w_u8, w_u32a, N_zero]; first | done | rfl))
          · intro i hi K10 hK10
            refine AWp.regionW ?_
            refine AWp.seqK fun K11 hK11 => ?_
            refine AWp.condLM (fun c4 => ?_) (fun c4 => ?_)
            · skip
              have hil : i < n.kids.length := by simpa using c4
              have hm := List.getElem_mem hil
              have hcl := inside_class c n.ty n.data.length n.kids hb (by omega)
              refine AWp.skip ?_
              refine hK11 _ ?_
              refine AWp.seqK fun K12 hK12 => ?_
              refine AWp.block ?_
              refine AWp.regionM fun K13 hK13 => ?_
              refine ARun2.indexM (i) (nodeA false n.kids[i]) ?_ ?_
              · exact nodesA_at _ _ _ hil
              refine ARun2.endm (hK13 _ ?_)
              refine AWp.regionM fun K14 hK14 => ?_
              refine ARun2.callM (ih (insideN (shapeOf c n.ty).kids).1 (dp + 1) n.kids[i] (by have := wts_mem hm; rw [GNode.wt_eq] at hw; omega) hcl (by omega) (by have := nSize_one hm; omega)) ?_
              refine ARun2.endm (hK14 _ ?_)
              refine AWp.regionW ?_
              refine AWp.condLM (fun c5 => ?_) (fun c5 => ?_)
              · skip
                have h5 : checkN (insideN (shapeOf c n.ty).kids).1 (dp + 1) n.kids[i] ≠ 0 := by simpa using c5
                refine AWp.regionW ?_
                refine AWp.ret ?_
                try simp only [thenQ, blockQ, noGo]
                refine bodyQ.m ?_
                clear hK14 K14 hK13 K13 hK12 K12 hK11 K11 hK10 K10 hK9 K9 hK8 K8 hK7 K7 hK6 K6 hK5 K5 hK4 K4 hK3 K3 hK2 K2 hK1 K1
                have hL := checkL_at _ _ n.kids i hil hi.2 h5
                rw [checkN_eq c dp n, if_neg h0, if_neg hb', if_neg h3, if_pos (by rw [hL]; exact h5), hL]
                first | done | exact Hand.go
              · skip
                have h5 : checkN (insideN (shapeOf c n.ty).kids).1 (dp + 1) n.kids[i] = 0 := by simpa using c5
                refine AWp.skip ?_
                refine hK12 _ ?_
                refine AWp.regionV ?_
                refine hK10 _ (i + 1) (⟨by omega, by rw [List.take_succ_eq_append_getElem hil, checkL_snoc, hi.2]; simpa using h5⟩) (by omega) ?_
                refine Le.m 2 ?_ ?_
                · first | with_reducible rfl | (simp only [push_cast, ↓reduceIte, Nat.reduceEqDiff, Nat.reduceLT, Nat.reduceAdd, Nat.reduceSub, Nat.reduceMul, Nat.reduceLeDiff, Nat.reducePow, Int.reduceLT, Int.reduceToNat, reduceCtorEq, Int.reduceNeg, Int.reduceEq, Nat.reduceBEq, Nat.reduceBNe, Int.reduceBEq, Int.reduceBNe, String.reduceEq]; first | done | rfl | (simp (disch := omega) only [w_nat, w_add, w_addl, w_addr, w_sub, w_subl, w_mul, w_mull, w_mulr, w_u32, w_u16, w_u8, w_u32a, N_zero]; first | done | rfl))
                · first | (simp only [push_cast, ↓reduceIte, Nat.reduceEqDiff, Nat.reduceLT, Nat.reduceAdd, Nat.reduceSub, Nat.reduceMul, Nat.reduceLeDiff, Nat.reducePow, Int.reduceLT, Int.reduceToNat, reduceCtorEq, Int.reduceNeg, Int.reduceEq, Nat.reduceBEq, Nat.reduceBNe, Int.reduceBEq, Int.reduceBNe, String.reduceEq]; first | done | rfl | (simp (disch := omega) only [w_nat, w_add, w_addl, w_addr, w_sub, w_subl, w_mul, w_mull, w_mulr, w_u32, w_u16, w_u8, w_u32a, N_zero]; first | done | rfl))
            · skip
              have hil : i = n.kids.length := by have := hi.1; simp at c4; omega
              have hL : checkL (insideN (shapeOf c n.ty).kids).1 (dp + 1) n.kids = 0 := by have := hi.2; rwa [hil, List.take_length] at this
              subst hil
              refine AWp.exit ?_
              try simp only [thenQ, blockQ, noGo, reduceIte, Nat.reduceEqDiff]
              refine hK9 _ ?_
              refine AWp.seqK fun K15 hK15 => ?_
              refine AWp.regionM fun K16 hK16 => ?_
              refine ARun2.callM (size_c [n] hs) ?_
              refine ARun2.endm (hK16 _ ?_)
              refine AWp.condLM (fun c6 => ?_) (fun c6 => ?_)
              · skip
                have h6 : 65535 < nSize [n] := by simpa using c6
                refine AWp.regionW ?_
                refine AWp.ret ?_
                try simp only [thenQ, blockQ, noGo]
                refine bodyQ.m ?_
                clear hK16 K16 hK15 K15 hK11 K11 hK10 K10 hK9 K9 hK8 K8 hK7 K7 hK6 K6 hK5 K5 hK4 K4 hK3 K3 hK2 K2 hK1 K1
                rw [checkN_eq, if_neg h0, if_neg hb', if_neg h3, if_neg (by rw [hL]; simp), if_pos h6]
                first | done | exact Hand.go
              · skip
                have h6 : ¬ 65535 < nSize [n] := by simpa using c6
                refine AWp.skip ?_
                refine hK15 _ ?_
                refine AWp.regionW ?_
                refine AWp.ret ?_
                try simp only [thenQ, blockQ, noGo]
                refine bodyQ.m ?_
                clear hK16 K16 hK15 K15 hK11 K11 hK10 K10 hK9 K9 hK8 K8 hK7 K7 hK6 K6 hK5 K5 hK4 K4 hK3 K3 hK2 K2 hK1 K1
                rw [checkN_eq, if_neg h0, if_neg hb', if_neg h3, if_neg (by rw [hL]; simp), if_neg h6]
                first | done | exact Hand.go
theorem check_w : ∀ (w c dp : Nat) (n : GNode), n.wt ≤ w → (c = 1 ∨ c = 2) → dp < 2 ^ 60 → nSize [n] ≤ 2 ^ 30 → PC Tryd.prog 59 [nat c, nodeA false n, nat dp] (errA (checkN c dp n)) := by
  intro w
  induction w with
  | zero => exact check_step 0 (fun c dp n h => by omega)
  | succ w ih => exact check_step (w + 1) (fun c dp n h => ih c dp n (by omega))
theorem check_c (c : Nat) (n : GNode) (hc : c = 1 ∨ c = 2) (hs : nSize [n] ≤ 2 ^ 30) : PC Tryd.prog 47 [nat c, nodeA false n] (errA (checkN c 1 n)) := by
  refine PC.of_bodyW (by simp only [push_cast]) Tryd.func47 rfl (by rw [Tryd.ntmps47]; simp) ?_
  refine AWp.regionW ?_
  refine AWp.regionM fun K1 hK1 => ?_
  refine ARun2.callM (check_w n.wt c 1 n (Nat.le_refl _) hc (by omega) hs) ?_
  refine ARun2.endm (hK1 _ ?_)
  refine AWp.ret ?_
  try simp only [thenQ, blockQ, noGo]
  refine bodyQ.m ?_
  clear hK1 K1
  first | done | exact Hand.go
end Go.Proofs.YtoapdhogghbojaaDoor.C
/- node: Clone, Same. -/
set_option linter.unusedVariables false
set_option linter.unusedSimpArgs false
namespace Go.Abs
mutual
/-- all that a node holds -/
def GNode.sz : GNode → Nat
  | .mk _ d k => d.length + szs k + 1
def szs : List GNode → Nat
  | [] => 0
  | n :: l => n.sz + szs l
end
end Go.Abs
namespace Go.Proofs.YtoapdhogghbojaaDoor.C
open Go.Abs
end Go.Proofs.YtoapdhogghbojaaDoor.C
namespace Go.Abs
end Go.Abs
/- Truth values compared. No condition. -/
namespace Go.Abs
set_option linter.unusedVariables false
set_option linter.unusedSectionVars false
set_option linter.unusedSimpArgs false
def isBl (P : Program) (T : TypeId) : Bool := match P.underlying T with
  | some .bool => true
  | _ => false
theorem isBl_spec {P : Program} {T : TypeId} (h : isBl P T = true) : P.underlying T = some .bool := by
  unfold isBl at h
  split at h
  · assumption
  · cases h
section
variable {P : Program} {ops : Array Oper} {E : Env} {s s' : AS} {ρ : List Value} {B : Nat → Prop} {a : Act} {w w' : World} {o : Oper} {rest : List Oper} {Q : AS → Prop} {R : Exit → AS → Prop}
theorem AOp.boolEq {op : BinOp} {T X : TypeId} {x y : Operand} {b c : Bool} (ho : o.op = .binOp op T x y X) (hop : op = .eql ∨ op = .neq) (hT : isBl P T = true) (hx : s.ev x = .val (.bool b)) (hy : s.ev y = .val (.bool c))
    (k : ARun P ops rest (s.put o.dst (.val (.bool (if op = .eql then b == c else b != c)))) Q) : AOp P ops o rest s Q := by
  refine AOp.pure1 (fun E ρ B a w hs => ⟨.bool (if op = .eql then b == c else b != c), ?_, .val _⟩) k
  have hu := isBl_spec hT
  have e1 : a.eval x = .bool b := (hx ▸ hs.ev x : Rel w B E.bs ρ (.val (.bool b)) (a.eval x)).val_eq
  have e2 : a.eval y = .bool c := (hy ▸ hs.ev y : Rel w B E.bs ρ (.val (.bool c)) (a.eval y)).val_eq
  have he : (Op.equal T (.bool b) (.bool c)).run P w = .ok (b == c) w := equal_run fun d => by simp [Op.equalIn, run_underlying hu]
  have hg : (eqGuard op T x y (.bool b) (.bool c)).run P w = .ok () w := by rcases hop with rfl | rfl <;> simp [eqGuard]
  simp only [execOp, ho, e1, e2]
  rcases hop with rfl | rfl
  · simp [binOp, hg, he]
  · simp [binOp, hg, he, bne]
theorem ARun2.boolEqM {op : BinOp} {T X : TypeId} {x y : Operand} {b c : Bool} {p : List Oper × AS} (K : ARun2 P ops p Q) (ho : o.op = .binOp op T x y X := by rfl) (hop : op = .eql ∨ op = .neq := by first | exact .inl rfl | exact .inr rfl) (hT : isBl P T = true := by kernel_rfl)
    (hg : gd ops s o = some true := by exact Go.Abs.evT) (hx : s.ev x = .val (.bool b) := by exact Go.Abs.evT) (hy : s.ev y = .val (.bool c) := by exact Go.Abs.evT)
    (h : srun P ops rest (s.put o.dst (.val (.bool (if op = .eql then b == c else b != c)))) = p := by
        exact Go.Abs.evE) : ARun2 P ops (o :: rest, s) Q :=
  ARun.exec hg (AOp.boolEq ho hop hT hx hy (ARun.srun (h ▸ K)))
end
attribute [push_cast] bne_self_eq_false
end Go.Abs
/- Rows of the call's own that a callee reads, and that change later; a string's bytes. No condition. -/
namespace Go.Abs
set_option linter.unusedVariables false
set_option linter.unusedSectionVars false
set_option linter.unusedSimpArgs false
set_option linter.unnecessarySimpa false
mutual
/-- all that it leads to was made since the call began -/
def AV.fresh : AV → Bool
  | .val _ => true
  | .any => false
  | .agg l | .tup l => AV.freshL l
  | .sl nw _ xs => nw && AV.freshL xs
  | .own _ | .ptr _ _ | .ept _ _ => false
  | .ref nw x => nw && x.fresh
  | .ifc _ x => x.fresh
  | .fn _ l m => AV.freshL l && AV.freshL m
def AV.freshL : List AV → Bool
  | [] => true
  | x :: xs => x.fresh && AV.freshL xs
end
theorem AV.freshL_cells (x : AV) : AV.freshL x.cells = x.fresh := by
  cases x <;> simp [AV.cells, AV.fresh, AV.freshL]
section fresh
variable {w : World} {B : Nat → Prop} {bs : Nat} {ρ : List Value}
mutual
theorem Rel.fresh : ∀ {x : AV} {v : Value}, Rel w B bs ρ x v → x.fresh = true → Rel w (fun b => B b ∧ bs ≤ b) bs ρ x v
  | _, _, .val v, _ => .val v
  | _, _, .agg h, e => .agg (h.fresh (by simpa [AV.fresh] using e))
  | _, _, .tup h, e => .tup (h.fresh (by simpa [AV.fresh] using e))
  | _, _, .slE nw sz A cap, _ => .slE nw sz A cap
  | _, _, .sl h hc, e => by
    simp only [AV.fresh, Bool.and_eq_true] at e
    exact .sl (RelRow.fresh' h e.1 e.2) hc
  | _, _, .own h h1, e => by simp [AV.fresh] at e
  | _, _, .ptr h, e => by simp [AV.fresh] at e
  | _, _, .ept h, e => by simp [AV.fresh] at e
  | _, _, .ref (x := x) h hn, e => by
    simp only [AV.fresh, Bool.and_eq_true] at e
    exact .ref (RelCells.fresh h e.1 (by rw [AV.freshL_cells]; exact e.2)) hn
  | _, _, .ifc h, e => .ifc (h.fresh (by simpa [AV.fresh] using e))
  | _, _, .fn h h2, e => .fn (h.fresh (by simp only [AV.fresh, Bool.and_eq_true] at e; exact e.1)) (h2.fresh (by simp only [AV.fresh, Bool.and_eq_true] at e; exact e.2))
  | _, _, .any v, e => by simp [AV.fresh] at e
theorem RelL.fresh : ∀ {xs : List AV} {vs : List Value}, RelL w B bs ρ xs vs → AV.freshL xs = true → RelL w (fun b => B b ∧ bs ≤ b) bs ρ xs vs
  | _, _, .nil, _ => .nil
  | _, _, .cons h h2, e => .cons (h.fresh (by simp only [AV.freshL, Bool.and_eq_true] at e; exact e.1)) (h2.fresh (by simp only [AV.freshL, Bool.and_eq_true] at e; exact e.2))
theorem RelCells.fresh : ∀ {nw : Bool} {b o : Nat} {xs : List AV}, RelCells w B bs ρ nw b o xs → nw = true → AV.freshL xs = true → RelCells w (fun b => B b ∧ bs ≤ b) bs ρ nw b o xs
  | _, _, _, _, .nil, _, _ => .nil
  | _, _, _, _, .cons h1 h2 h3 h4 h5 h6, g, e => .cons ⟨h1, h2 g⟩ h2 h3 h4 (h5.fresh (by simp only [AV.freshL, Bool.and_eq_true] at e; exact e.1)) (RelCells.fresh h6 g (by simp only [AV.freshL, Bool.and_eq_true] at e; exact e.2))
theorem RelRow.fresh' : ∀ {nw : Bool} {b sz o : Nat} {xs : List AV}, RelRow w B bs ρ nw b sz o xs → nw = true → AV.freshL xs = true → RelRow w (fun b => B b ∧ bs ≤ b) bs ρ nw b sz o xs
  | _, _, _, _, _, .nil, _, _ => .nil
  | _, _, _, _, _, .cons (x := x) h1 h2 h3, g, e => .cons (RelCells.fresh h1 g (by rw [AV.freshL_cells]; simp only [AV.freshL, Bool.and_eq_true] at e; exact e.1)) h2 (RelRow.fresh' h3 g (by simp only [AV.freshL, Bool.and_eq_true] at e; exact e.2))
end
end fresh
section
variable {P : Program} {ops : Array Oper} {E : Env} {s s' : AS} {ρ σ : List Value} {B : Nat → Prop} {a : Act} {w w' : World} {o : Oper} {rest : List Oper} {Q : AS → Prop} {R : Exit → AS → Prop}
/-! ### an element of a row of the call's own (elements of one cell) -/
theorem flat_ones : ∀ {xs : List AV}, xs.all AV.one = true → xs.flatMap AV.cells = xs
  | [], _ => rfl
  | x :: xs, h => by
    simp only [List.all_cons, Bool.and_eq_true] at h
    rw [List.flatMap_cons, one_cells h.1, flat_ones h.2]; rfl
/-! ### make, as a row of the call's own -/
/-! ### a string's bytes -/
/-! ### a result told with less, but with what is new in it -/
def Wk (x y : AV) : Prop := ∀ (w : World) (B : Nat → Prop) (bs : Nat) (ρ : List Value) (v : Value), Rel w B bs ρ x v → Rel w B bs ρ y v
def WkL (xs ys : List AV) : Prop := ∀ (w : World) (B : Nat → Prop) (bs : Nat) (ρ : List Value) (vs : List Value), RelL w B bs ρ xs vs → RelL w B bs ρ ys vs
theorem Wk.eq {x y : AV} (h : x = y) : Wk x y := by subst h; exact fun _ _ _ _ _ h => h
theorem Wk.nil {nw : Bool} {sz : Nat} : Wk (.val (.slice none 0 0)) (.sl nw sz []) := by
  intro w B bs ρ v h; cases h; exact .slE _ _ _ _
theorem WkL.nil : WkL [] [] := fun _ _ _ _ _ h => h
theorem WkL.cons {x y : AV} {xs ys : List AV} (h : Wk x y) (h2 : WkL xs ys) : WkL (x :: xs) (y :: ys) := by
  intro w B bs ρ v hr; cases hr with | cons a b => exact .cons (h _ _ _ _ _ a) (h2 _ _ _ _ _ b)
theorem Wk.agg {xs ys : List AV} (h : WkL xs ys) : Wk (.agg xs) (.agg ys) := by
  intro w B bs ρ v hr; cases hr with | agg a => exact .agg (h _ _ _ _ _ a)
theorem Wk.tup {xs ys : List AV} (h : WkL xs ys) : Wk (.tup xs) (.tup ys) := by
  intro w B bs ρ v hr; cases hr with | tup a => exact .tup (h _ _ _ _ _ a)
theorem Wk.go {x y : AV} (h : Wk x y := by
      exact Go.Abs.evW) : Wk x y := h
theorem PC.of_bodyK {f : FuncId} {fn : Func} {c : Code} {args : List AV} {r : AV} (hr : r.idsOk (fun _ => false) = true) (hf : P.funcs[f]? = some fn) (hb : fn.body = some c) (hn : args.length ≤ fn.ntmps)
    (h : AWp P c { n := fn.ntmps, m := 0, fr := frOf 0 args, ob := [] } (bodyQ P fn fun r' _ => Wk r' r)) : PC P f args r := by
  refine ⟨hr, ?_⟩
  intro ep w ρ B vs hg hw hrel R' hR'
  refine ACalls.of_body (τ := []) (R := fun r' _ => Wk r' r) hf hb hn h ep w ρ B vs hg hw hrel R' ?_
  rintro r' v τ' ρ' B' w' hh hw' hv
  have hρ : ρ = [] := by have := hw.len; simpa using this
  subst hρ
  refine hR' _ v [] [] B' w' ⟨rfl, rfl⟩ ?_ ((hh _ _ _ _ _ hv).ids (p := fun _ => false) (by intro _ _ h; simp at h) hr)
  have := hw'.cut (n := 0) (by simp) (by intro k o h; simp at h)
  simpa using this
end
attribute [push_cast] AV.fresh AV.freshL
end Go.Abs
