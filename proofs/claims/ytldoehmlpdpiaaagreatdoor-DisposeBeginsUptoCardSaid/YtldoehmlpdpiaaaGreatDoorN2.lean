/- Closed facts on the translation's types and functions, for the evaluation; written by a program of this claim's author. -/
import Derived.Test.YtldoehmlpdpiaaaGreatDoorN1
import Derived.Test.YtldoehmlpdpiaaaGreatDoorProg
import Derived.KernelRfl
namespace Go.Proofs.YtldoehmlpdpiaaaGreatDoor.Facts
open Go.Abs
@[push_cast] theorem tk1 : tk Tryz.prog 1 = .scal := by kernel_rfl
@[push_cast] theorem zc1 : zc Tryz.prog 1 = some [.nilFunc] := by kernel_rfl
@[push_cast] theorem nk1 : nk Tryz.prog 1 = .fnc := by kernel_rfl
@[push_cast] theorem cc1 : Go.Abs.concrete Tryz.prog 1 = true := by kernel_rfl
@[push_cast] theorem isl1 : isSlc Tryz.prog 1 = false := by kernel_rfl
@[push_cast] theorem ist1 : isStr Tryz.prog 1 = false := by kernel_rfl
@[push_cast] theorem ik1 : ikd Tryz.prog 1 = none := by kernel_rfl
@[push_cast] theorem tk2 : tk Tryz.prog 2 = .scal := by kernel_rfl
@[push_cast] theorem zc2 : zc Tryz.prog 2 = some [.int .i64 0] := by kernel_rfl
@[push_cast] theorem nk2 : nk Tryz.prog 2 = .other := by kernel_rfl
@[push_cast] theorem cc2 : Go.Abs.concrete Tryz.prog 2 = true := by kernel_rfl
@[push_cast] theorem isl2 : isSlc Tryz.prog 2 = false := by kernel_rfl
@[push_cast] theorem ist2 : isStr Tryz.prog 2 = false := by kernel_rfl
@[push_cast] theorem ik2 : ikd Tryz.prog 2 = some .i64 := by kernel_rfl
@[push_cast] theorem tk3 : tk Tryz.prog 3 = .scal := by kernel_rfl
@[push_cast] theorem zc3 : zc Tryz.prog 3 = some [.int .i64 0] := by kernel_rfl
@[push_cast] theorem nk3 : nk Tryz.prog 3 = .other := by kernel_rfl
@[push_cast] theorem cc3 : Go.Abs.concrete Tryz.prog 3 = true := by kernel_rfl
@[push_cast] theorem isl3 : isSlc Tryz.prog 3 = false := by kernel_rfl
@[push_cast] theorem ist3 : isStr Tryz.prog 3 = false := by kernel_rfl
@[push_cast] theorem ik3 : ikd Tryz.prog 3 = some .i64 := by kernel_rfl
@[push_cast] theorem tk4 : tk Tryz.prog 4 = .scal := by kernel_rfl
@[push_cast] theorem zc4 : zc Tryz.prog 4 = some [.bool false] := by kernel_rfl
@[push_cast] theorem nk4 : nk Tryz.prog 4 = .other := by kernel_rfl
@[push_cast] theorem cc4 : Go.Abs.concrete Tryz.prog 4 = true := by kernel_rfl
@[push_cast] theorem isl4 : isSlc Tryz.prog 4 = false := by kernel_rfl
@[push_cast] theorem ist4 : isStr Tryz.prog 4 = false := by kernel_rfl
@[push_cast] theorem ik4 : ikd Tryz.prog 4 = none := by kernel_rfl
@[push_cast] theorem tk5 : tk Tryz.prog 5 = .scal := by kernel_rfl
@[push_cast] theorem zc5 : zc Tryz.prog 5 = some [.int .u8 0] := by kernel_rfl
@[push_cast] theorem nk5 : nk Tryz.prog 5 = .other := by kernel_rfl
@[push_cast] theorem cc5 : Go.Abs.concrete Tryz.prog 5 = true := by kernel_rfl
@[push_cast] theorem isl5 : isSlc Tryz.prog 5 = false := by kernel_rfl
@[push_cast] theorem ist5 : isStr Tryz.prog 5 = false := by kernel_rfl
@[push_cast] theorem ik5 : ikd Tryz.prog 5 = some .u8 := by kernel_rfl
@[push_cast] theorem tk6 : tk Tryz.prog 6 = .scal := by kernel_rfl
@[push_cast] theorem zc6 : zc Tryz.prog 6 = some [.int .u8 0] := by kernel_rfl
@[push_cast] theorem nk6 : nk Tryz.prog 6 = .other := by kernel_rfl
@[push_cast] theorem cc6 : Go.Abs.concrete Tryz.prog 6 = true := by kernel_rfl
@[push_cast] theorem isl6 : isSlc Tryz.prog 6 = false := by kernel_rfl
@[push_cast] theorem ist6 : isStr Tryz.prog 6 = false := by kernel_rfl
@[push_cast] theorem ik6 : ikd Tryz.prog 6 = some .u8 := by kernel_rfl
@[push_cast] theorem tk7 : tk Tryz.prog 7 = .aggr 4 := by kernel_rfl
@[push_cast] theorem zc7 : zc Tryz.prog 7 = some [.int .i64 0, .int .i64 0, .bool false, .int .u8 0] := by kernel_rfl
@[push_cast] theorem fld7_0 : fld Tryz.prog 7 0 = some (0, .scal) := by kernel_rfl
@[push_cast] theorem fld7_1 : fld Tryz.prog 7 1 = some (1, .scal) := by kernel_rfl
@[push_cast] theorem fld7_2 : fld Tryz.prog 7 2 = some (2, .scal) := by kernel_rfl
@[push_cast] theorem fld7_3 : fld Tryz.prog 7 3 = some (3, .scal) := by kernel_rfl
@[push_cast] theorem pl7 : places Tryz.prog 7 = some [(0, 1), (1, 1), (2, 1), (3, 1)] := by kernel_rfl
@[push_cast] theorem nk7 : nk Tryz.prog 7 = .other := by kernel_rfl
@[push_cast] theorem cc7 : Go.Abs.concrete Tryz.prog 7 = true := by kernel_rfl
@[push_cast] theorem isl7 : isSlc Tryz.prog 7 = false := by kernel_rfl
@[push_cast] theorem ist7 : isStr Tryz.prog 7 = false := by kernel_rfl
@[push_cast] theorem ik7 : ikd Tryz.prog 7 = none := by kernel_rfl
@[push_cast] theorem tk8 : tk Tryz.prog 8 = .aggr 4 := by kernel_rfl
@[push_cast] theorem zc8 : zc Tryz.prog 8 = some [.int .i64 0, .int .i64 0, .bool false, .int .u8 0] := by kernel_rfl
@[push_cast] theorem fld8_0 : fld Tryz.prog 8 0 = some (0, .scal) := by kernel_rfl
@[push_cast] theorem fld8_1 : fld Tryz.prog 8 1 = some (1, .scal) := by kernel_rfl
@[push_cast] theorem fld8_2 : fld Tryz.prog 8 2 = some (2, .scal) := by kernel_rfl
@[push_cast] theorem fld8_3 : fld Tryz.prog 8 3 = some (3, .scal) := by kernel_rfl
@[push_cast] theorem pl8 : places Tryz.prog 8 = some [(0, 1), (1, 1), (2, 1), (3, 1)] := by kernel_rfl
@[push_cast] theorem nk8 : nk Tryz.prog 8 = .other := by kernel_rfl
@[push_cast] theorem cc8 : Go.Abs.concrete Tryz.prog 8 = true := by kernel_rfl
@[push_cast] theorem isl8 : isSlc Tryz.prog 8 = false := by kernel_rfl
@[push_cast] theorem ist8 : isStr Tryz.prog 8 = false := by kernel_rfl
@[push_cast] theorem ik8 : ikd Tryz.prog 8 = none := by kernel_rfl
@[push_cast] theorem tk9 : tk Tryz.prog 9 = .scal := by kernel_rfl
@[push_cast] theorem zc9 : zc Tryz.prog 9 = some [.string ⟨#[]⟩] := by kernel_rfl
@[push_cast] theorem nk9 : nk Tryz.prog 9 = .other := by kernel_rfl
@[push_cast] theorem cc9 : Go.Abs.concrete Tryz.prog 9 = true := by kernel_rfl
@[push_cast] theorem isl9 : isSlc Tryz.prog 9 = false := by kernel_rfl
@[push_cast] theorem ist9 : isStr Tryz.prog 9 = true := by kernel_rfl
@[push_cast] theorem ik9 : ikd Tryz.prog 9 = none := by kernel_rfl
@[push_cast] theorem tk10 : tk Tryz.prog 10 = .scal := by kernel_rfl
@[push_cast] theorem zc10 : zc Tryz.prog 10 = some [.string ⟨#[]⟩] := by kernel_rfl
@[push_cast] theorem nk10 : nk Tryz.prog 10 = .other := by kernel_rfl
@[push_cast] theorem cc10 : Go.Abs.concrete Tryz.prog 10 = true := by kernel_rfl
@[push_cast] theorem isl10 : isSlc Tryz.prog 10 = false := by kernel_rfl
@[push_cast] theorem ist10 : isStr Tryz.prog 10 = true := by kernel_rfl
@[push_cast] theorem ik10 : ikd Tryz.prog 10 = none := by kernel_rfl
@[push_cast] theorem tk11 : tk Tryz.prog 11 = .scal := by kernel_rfl
@[push_cast] theorem zc11 : zc Tryz.prog 11 = some [.string ⟨#[]⟩] := by kernel_rfl
@[push_cast] theorem nk11 : nk Tryz.prog 11 = .other := by kernel_rfl
@[push_cast] theorem cc11 : Go.Abs.concrete Tryz.prog 11 = true := by kernel_rfl
@[push_cast] theorem isl11 : isSlc Tryz.prog 11 = false := by kernel_rfl
@[push_cast] theorem ist11 : isStr Tryz.prog 11 = true := by kernel_rfl
@[push_cast] theorem ik11 : ikd Tryz.prog 11 = none := by kernel_rfl
@[push_cast] theorem tk12 : tk Tryz.prog 12 = .scal := by kernel_rfl
@[push_cast] theorem zc12 : zc Tryz.prog 12 = some [.int .u64 0] := by kernel_rfl
@[push_cast] theorem nk12 : nk Tryz.prog 12 = .other := by kernel_rfl
@[push_cast] theorem cc12 : Go.Abs.concrete Tryz.prog 12 = true := by kernel_rfl
@[push_cast] theorem isl12 : isSlc Tryz.prog 12 = false := by kernel_rfl
@[push_cast] theorem ist12 : isStr Tryz.prog 12 = false := by kernel_rfl
@[push_cast] theorem ik12 : ikd Tryz.prog 12 = some .u64 := by kernel_rfl
@[push_cast] theorem tk13 : tk Tryz.prog 13 = .aggr 2 := by kernel_rfl
@[push_cast] theorem zc13 : zc Tryz.prog 13 = some [.string ⟨#[]⟩, .int .u64 0] := by kernel_rfl
@[push_cast] theorem fld13_0 : fld Tryz.prog 13 0 = some (0, .scal) := by kernel_rfl
@[push_cast] theorem fld13_1 : fld Tryz.prog 13 1 = some (1, .scal) := by kernel_rfl
@[push_cast] theorem pl13 : places Tryz.prog 13 = some [(0, 1), (1, 1)] := by kernel_rfl
@[push_cast] theorem nk13 : nk Tryz.prog 13 = .other := by kernel_rfl
@[push_cast] theorem cc13 : Go.Abs.concrete Tryz.prog 13 = true := by kernel_rfl
@[push_cast] theorem isl13 : isSlc Tryz.prog 13 = false := by kernel_rfl
@[push_cast] theorem ist13 : isStr Tryz.prog 13 = false := by kernel_rfl
@[push_cast] theorem ik13 : ikd Tryz.prog 13 = none := by kernel_rfl
@[push_cast] theorem tk14 : tk Tryz.prog 14 = .aggr 2 := by kernel_rfl
@[push_cast] theorem zc14 : zc Tryz.prog 14 = some [.string ⟨#[]⟩, .int .u64 0] := by kernel_rfl
@[push_cast] theorem fld14_0 : fld Tryz.prog 14 0 = some (0, .scal) := by kernel_rfl
@[push_cast] theorem fld14_1 : fld Tryz.prog 14 1 = some (1, .scal) := by kernel_rfl
@[push_cast] theorem pl14 : places Tryz.prog 14 = some [(0, 1), (1, 1)] := by kernel_rfl
@[push_cast] theorem nk14 : nk Tryz.prog 14 = .other := by kernel_rfl
@[push_cast] theorem cc14 : Go.Abs.concrete Tryz.prog 14 = true := by kernel_rfl
@[push_cast] theorem isl14 : isSlc Tryz.prog 14 = false := by kernel_rfl
@[push_cast] theorem ist14 : isStr Tryz.prog 14 = false := by kernel_rfl
@[push_cast] theorem ik14 : ikd Tryz.prog 14 = none := by kernel_rfl
@[push_cast] theorem tk15 : tk Tryz.prog 15 = .scal := by kernel_rfl
@[push_cast] theorem zc15 : zc Tryz.prog 15 = some [.pointer none] := by kernel_rfl
@[push_cast] theorem nk15 : nk Tryz.prog 15 = .ptr := by kernel_rfl
@[push_cast] theorem cc15 : Go.Abs.concrete Tryz.prog 15 = true := by kernel_rfl
@[push_cast] theorem isl15 : isSlc Tryz.prog 15 = false := by kernel_rfl
@[push_cast] theorem ist15 : isStr Tryz.prog 15 = false := by kernel_rfl
@[push_cast] theorem ik15 : ikd Tryz.prog 15 = none := by kernel_rfl
@[push_cast] theorem tk16 : tk Tryz.prog 16 = .scal := by kernel_rfl
@[push_cast] theorem zc16 : zc Tryz.prog 16 = some [.pointer none] := by kernel_rfl
@[push_cast] theorem nk16 : nk Tryz.prog 16 = .ptr := by kernel_rfl
@[push_cast] theorem cc16 : Go.Abs.concrete Tryz.prog 16 = true := by kernel_rfl
@[push_cast] theorem isl16 : isSlc Tryz.prog 16 = false := by kernel_rfl
@[push_cast] theorem ist16 : isStr Tryz.prog 16 = false := by kernel_rfl
@[push_cast] theorem ik16 : ikd Tryz.prog 16 = none := by kernel_rfl
@[push_cast] theorem tk17 : tk Tryz.prog 17 = .scal := by kernel_rfl
@[push_cast] theorem zc17 : zc Tryz.prog 17 = some [.pointer none] := by kernel_rfl
@[push_cast] theorem nk17 : nk Tryz.prog 17 = .ptr := by kernel_rfl
@[push_cast] theorem cc17 : Go.Abs.concrete Tryz.prog 17 = true := by kernel_rfl
@[push_cast] theorem isl17 : isSlc Tryz.prog 17 = false := by kernel_rfl
@[push_cast] theorem ist17 : isStr Tryz.prog 17 = false := by kernel_rfl
@[push_cast] theorem ik17 : ikd Tryz.prog 17 = none := by kernel_rfl
@[push_cast] theorem tk18 : tk Tryz.prog 18 = .aggr 1 := by kernel_rfl
@[push_cast] theorem zc18 : zc Tryz.prog 18 = some [.pointer none] := by kernel_rfl
@[push_cast] theorem fld18_0 : fld Tryz.prog 18 0 = some (0, .scal) := by kernel_rfl
@[push_cast] theorem pl18 : places Tryz.prog 18 = some [(0, 1)] := by kernel_rfl
@[push_cast] theorem nk18 : nk Tryz.prog 18 = .other := by kernel_rfl
@[push_cast] theorem cc18 : Go.Abs.concrete Tryz.prog 18 = true := by kernel_rfl
@[push_cast] theorem isl18 : isSlc Tryz.prog 18 = false := by kernel_rfl
@[push_cast] theorem ist18 : isStr Tryz.prog 18 = false := by kernel_rfl
@[push_cast] theorem ik18 : ikd Tryz.prog 18 = none := by kernel_rfl
@[push_cast] theorem tk19 : tk Tryz.prog 19 = .aggr 1 := by kernel_rfl
@[push_cast] theorem zc19 : zc Tryz.prog 19 = some [.pointer none] := by kernel_rfl
@[push_cast] theorem fld19_0 : fld Tryz.prog 19 0 = some (0, .scal) := by kernel_rfl
@[push_cast] theorem pl19 : places Tryz.prog 19 = some [(0, 1)] := by kernel_rfl
@[push_cast] theorem nk19 : nk Tryz.prog 19 = .other := by kernel_rfl
@[push_cast] theorem cc19 : Go.Abs.concrete Tryz.prog 19 = true := by kernel_rfl
@[push_cast] theorem isl19 : isSlc Tryz.prog 19 = false := by kernel_rfl
@[push_cast] theorem ist19 : isStr Tryz.prog 19 = false := by kernel_rfl
@[push_cast] theorem ik19 : ikd Tryz.prog 19 = none := by kernel_rfl
@[push_cast] theorem tk20 : tk Tryz.prog 20 = .scal := by kernel_rfl
@[push_cast] theorem zc20 : zc Tryz.prog 20 = some [.nilIface] := by kernel_rfl
@[push_cast] theorem nk20 : nk Tryz.prog 20 = .ifc := by kernel_rfl
@[push_cast] theorem isl20 : isSlc Tryz.prog 20 = false := by kernel_rfl
@[push_cast] theorem ist20 : isStr Tryz.prog 20 = false := by kernel_rfl
@[push_cast] theorem ik20 : ikd Tryz.prog 20 = none := by kernel_rfl
@[push_cast] theorem tk21 : tk Tryz.prog 21 = .scal := by kernel_rfl
@[push_cast] theorem zc21 : zc Tryz.prog 21 = some [.int .i32 0] := by kernel_rfl
@[push_cast] theorem nk21 : nk Tryz.prog 21 = .other := by kernel_rfl
@[push_cast] theorem cc21 : Go.Abs.concrete Tryz.prog 21 = true := by kernel_rfl
@[push_cast] theorem isl21 : isSlc Tryz.prog 21 = false := by kernel_rfl
@[push_cast] theorem ist21 : isStr Tryz.prog 21 = false := by kernel_rfl
@[push_cast] theorem ik21 : ikd Tryz.prog 21 = some .i32 := by kernel_rfl
@[push_cast] theorem tk22 : tk Tryz.prog 22 = .scal := by kernel_rfl
@[push_cast] theorem zc22 : zc Tryz.prog 22 = some [.int .u16 0] := by kernel_rfl
@[push_cast] theorem nk22 : nk Tryz.prog 22 = .other := by kernel_rfl
@[push_cast] theorem cc22 : Go.Abs.concrete Tryz.prog 22 = true := by kernel_rfl
@[push_cast] theorem isl22 : isSlc Tryz.prog 22 = false := by kernel_rfl
@[push_cast] theorem ist22 : isStr Tryz.prog 22 = false := by kernel_rfl
@[push_cast] theorem ik22 : ikd Tryz.prog 22 = some .u16 := by kernel_rfl
@[push_cast] theorem tk23 : tk Tryz.prog 23 = .scal := by kernel_rfl
@[push_cast] theorem zc23 : zc Tryz.prog 23 = some [.int .u32 0] := by kernel_rfl
@[push_cast] theorem nk23 : nk Tryz.prog 23 = .other := by kernel_rfl
@[push_cast] theorem cc23 : Go.Abs.concrete Tryz.prog 23 = true := by kernel_rfl
@[push_cast] theorem isl23 : isSlc Tryz.prog 23 = false := by kernel_rfl
@[push_cast] theorem ist23 : isStr Tryz.prog 23 = false := by kernel_rfl
@[push_cast] theorem ik23 : ikd Tryz.prog 23 = some .u32 := by kernel_rfl
@[push_cast] theorem tk24 : tk Tryz.prog 24 = .aggr 3 := by kernel_rfl
@[push_cast] theorem zc24 : zc Tryz.prog 24 = some [.int .u16 0, .int .u16 0, .int .u32 0] := by kernel_rfl
@[push_cast] theorem fld24_0 : fld Tryz.prog 24 0 = some (0, .scal) := by kernel_rfl
@[push_cast] theorem fld24_1 : fld Tryz.prog 24 1 = some (1, .scal) := by kernel_rfl
@[push_cast] theorem fld24_2 : fld Tryz.prog 24 2 = some (2, .scal) := by kernel_rfl
@[push_cast] theorem pl24 : places Tryz.prog 24 = some [(0, 1), (1, 1), (2, 1)] := by kernel_rfl
@[push_cast] theorem nk24 : nk Tryz.prog 24 = .other := by kernel_rfl
@[push_cast] theorem cc24 : Go.Abs.concrete Tryz.prog 24 = true := by kernel_rfl
@[push_cast] theorem isl24 : isSlc Tryz.prog 24 = false := by kernel_rfl
@[push_cast] theorem ist24 : isStr Tryz.prog 24 = false := by kernel_rfl
@[push_cast] theorem ik24 : ikd Tryz.prog 24 = none := by kernel_rfl
@[push_cast] theorem tk25 : tk Tryz.prog 25 = .aggr 3 := by kernel_rfl
@[push_cast] theorem zc25 : zc Tryz.prog 25 = some [.int .u16 0, .int .u16 0, .int .u32 0] := by kernel_rfl
@[push_cast] theorem fld25_0 : fld Tryz.prog 25 0 = some (0, .scal) := by kernel_rfl
@[push_cast] theorem fld25_1 : fld Tryz.prog 25 1 = some (1, .scal) := by kernel_rfl
@[push_cast] theorem fld25_2 : fld Tryz.prog 25 2 = some (2, .scal) := by kernel_rfl
@[push_cast] theorem pl25 : places Tryz.prog 25 = some [(0, 1), (1, 1), (2, 1)] := by kernel_rfl
@[push_cast] theorem nk25 : nk Tryz.prog 25 = .other := by kernel_rfl
@[push_cast] theorem cc25 : Go.Abs.concrete Tryz.prog 25 = true := by kernel_rfl
@[push_cast] theorem isl25 : isSlc Tryz.prog 25 = false := by kernel_rfl
@[push_cast] theorem ist25 : isStr Tryz.prog 25 = false := by kernel_rfl
@[push_cast] theorem ik25 : ikd Tryz.prog 25 = none := by kernel_rfl
@[push_cast] theorem tk26 : tk Tryz.prog 26 = .scal := by kernel_rfl
@[push_cast] theorem zc26 : zc Tryz.prog 26 = some [.slice none 0 0] := by kernel_rfl
@[push_cast] theorem nk26 : nk Tryz.prog 26 = .slc := by kernel_rfl
@[push_cast] theorem cc26 : Go.Abs.concrete Tryz.prog 26 = true := by kernel_rfl
@[push_cast] theorem isl26 : isSlc Tryz.prog 26 = true := by kernel_rfl
@[push_cast] theorem ist26 : isStr Tryz.prog 26 = false := by kernel_rfl
@[push_cast] theorem ik26 : ikd Tryz.prog 26 = none := by kernel_rfl
@[push_cast] theorem es26 : elSz Tryz.prog 26 = some 4 := by kernel_rfl
@[push_cast] theorem eb26 : elB Tryz.prog 26 = 56 := by kernel_rfl
@[push_cast] theorem el26 : elT Tryz.prog 26 = some 42 := by kernel_rfl
@[push_cast] theorem by26 : isBys Tryz.prog 26 = false := by kernel_rfl
@[push_cast] theorem tk27 : tk Tryz.prog 27 = .aggr 4 := by kernel_rfl
@[push_cast] theorem zc27 : zc Tryz.prog 27 = some [.int .u16 0, .int .u16 0, .int .u32 0, .slice none 0 0] := by kernel_rfl
@[push_cast] theorem fld27_0 : fld Tryz.prog 27 0 = some (0, .aggr 3) := by kernel_rfl
@[push_cast] theorem fld27_1 : fld Tryz.prog 27 1 = some (3, .scal) := by kernel_rfl
@[push_cast] theorem pl27 : places Tryz.prog 27 = some [(0, 3), (3, 1)] := by kernel_rfl
@[push_cast] theorem nk27 : nk Tryz.prog 27 = .other := by kernel_rfl
@[push_cast] theorem cc27 : Go.Abs.concrete Tryz.prog 27 = true := by kernel_rfl
@[push_cast] theorem isl27 : isSlc Tryz.prog 27 = false := by kernel_rfl
@[push_cast] theorem ist27 : isStr Tryz.prog 27 = false := by kernel_rfl
@[push_cast] theorem ik27 : ikd Tryz.prog 27 = none := by kernel_rfl
@[push_cast] theorem tk28 : tk Tryz.prog 28 = .aggr 4 := by kernel_rfl
@[push_cast] theorem zc28 : zc Tryz.prog 28 = some [.int .u16 0, .int .u16 0, .int .u32 0, .slice none 0 0] := by kernel_rfl
@[push_cast] theorem fld28_0 : fld Tryz.prog 28 0 = some (0, .aggr 3) := by kernel_rfl
@[push_cast] theorem fld28_1 : fld Tryz.prog 28 1 = some (3, .scal) := by kernel_rfl
@[push_cast] theorem pl28 : places Tryz.prog 28 = some [(0, 3), (3, 1)] := by kernel_rfl
@[push_cast] theorem nk28 : nk Tryz.prog 28 = .other := by kernel_rfl
@[push_cast] theorem cc28 : Go.Abs.concrete Tryz.prog 28 = true := by kernel_rfl
@[push_cast] theorem isl28 : isSlc Tryz.prog 28 = false := by kernel_rfl
@[push_cast] theorem ist28 : isStr Tryz.prog 28 = false := by kernel_rfl
@[push_cast] theorem ik28 : ikd Tryz.prog 28 = none := by kernel_rfl
@[push_cast] theorem tk29 : tk Tryz.prog 29 = .scal := by kernel_rfl
@[push_cast] theorem zc29 : zc Tryz.prog 29 = some [.nilFunc] := by kernel_rfl
@[push_cast] theorem nk29 : nk Tryz.prog 29 = .fnc := by kernel_rfl
@[push_cast] theorem cc29 : Go.Abs.concrete Tryz.prog 29 = true := by kernel_rfl
@[push_cast] theorem isl29 : isSlc Tryz.prog 29 = false := by kernel_rfl
@[push_cast] theorem ist29 : isStr Tryz.prog 29 = false := by kernel_rfl
@[push_cast] theorem ik29 : ikd Tryz.prog 29 = none := by kernel_rfl
@[push_cast] theorem tk30 : tk Tryz.prog 30 = .scal := by kernel_rfl
@[push_cast] theorem zc30 : zc Tryz.prog 30 = some [.nilFunc] := by kernel_rfl
@[push_cast] theorem nk30 : nk Tryz.prog 30 = .fnc := by kernel_rfl
@[push_cast] theorem cc30 : Go.Abs.concrete Tryz.prog 30 = true := by kernel_rfl
@[push_cast] theorem isl30 : isSlc Tryz.prog 30 = false := by kernel_rfl
@[push_cast] theorem ist30 : isStr Tryz.prog 30 = false := by kernel_rfl
@[push_cast] theorem ik30 : ikd Tryz.prog 30 = none := by kernel_rfl
@[push_cast] theorem tk31 : tk Tryz.prog 31 = .scal := by kernel_rfl
@[push_cast] theorem zc31 : zc Tryz.prog 31 = some [.slice none 0 0] := by kernel_rfl
@[push_cast] theorem nk31 : nk Tryz.prog 31 = .slc := by kernel_rfl
@[push_cast] theorem cc31 : Go.Abs.concrete Tryz.prog 31 = true := by kernel_rfl
@[push_cast] theorem isl31 : isSlc Tryz.prog 31 = true := by kernel_rfl
@[push_cast] theorem ist31 : isStr Tryz.prog 31 = false := by kernel_rfl
@[push_cast] theorem ik31 : ikd Tryz.prog 31 = none := by kernel_rfl
@[push_cast] theorem es31 : elSz Tryz.prog 31 = some 3 := by kernel_rfl
@[push_cast] theorem eb31 : elB Tryz.prog 31 = 56 := by kernel_rfl
@[push_cast] theorem el31 : elT Tryz.prog 31 = some 49 := by kernel_rfl
@[push_cast] theorem by31 : isBys Tryz.prog 31 = false := by kernel_rfl
@[push_cast] theorem tk32 : tk Tryz.prog 32 = .aggr 4 := by kernel_rfl
@[push_cast] theorem zc32 : zc Tryz.prog 32 = some [.slice none 0 0, .slice none 0 0, .slice none 0 0, .bool false] := by kernel_rfl
@[push_cast] theorem fld32_0 : fld Tryz.prog 32 0 = some (0, .scal) := by kernel_rfl
@[push_cast] theorem fld32_1 : fld Tryz.prog 32 1 = some (1, .scal) := by kernel_rfl
@[push_cast] theorem fld32_2 : fld Tryz.prog 32 2 = some (2, .scal) := by kernel_rfl
@[push_cast] theorem fld32_3 : fld Tryz.prog 32 3 = some (3, .scal) := by kernel_rfl
@[push_cast] theorem pl32 : places Tryz.prog 32 = some [(0, 1), (1, 1), (2, 1), (3, 1)] := by kernel_rfl
@[push_cast] theorem nk32 : nk Tryz.prog 32 = .other := by kernel_rfl
@[push_cast] theorem cc32 : Go.Abs.concrete Tryz.prog 32 = true := by kernel_rfl
@[push_cast] theorem isl32 : isSlc Tryz.prog 32 = false := by kernel_rfl
@[push_cast] theorem ist32 : isStr Tryz.prog 32 = false := by kernel_rfl
@[push_cast] theorem ik32 : ikd Tryz.prog 32 = none := by kernel_rfl
@[push_cast] theorem tk33 : tk Tryz.prog 33 = .aggr 4 := by kernel_rfl
@[push_cast] theorem zc33 : zc Tryz.prog 33 = some [.slice none 0 0, .slice none 0 0, .slice none 0 0, .bool false] := by kernel_rfl
@[push_cast] theorem fld33_0 : fld Tryz.prog 33 0 = some (0, .scal) := by kernel_rfl
@[push_cast] theorem fld33_1 : fld Tryz.prog 33 1 = some (1, .scal) := by kernel_rfl
@[push_cast] theorem fld33_2 : fld Tryz.prog 33 2 = some (2, .scal) := by kernel_rfl
@[push_cast] theorem fld33_3 : fld Tryz.prog 33 3 = some (3, .scal) := by kernel_rfl
@[push_cast] theorem pl33 : places Tryz.prog 33 = some [(0, 1), (1, 1), (2, 1), (3, 1)] := by kernel_rfl
@[push_cast] theorem nk33 : nk Tryz.prog 33 = .other := by kernel_rfl
@[push_cast] theorem cc33 : Go.Abs.concrete Tryz.prog 33 = true := by kernel_rfl
@[push_cast] theorem isl33 : isSlc Tryz.prog 33 = false := by kernel_rfl
@[push_cast] theorem ist33 : isStr Tryz.prog 33 = false := by kernel_rfl
@[push_cast] theorem ik33 : ikd Tryz.prog 33 = none := by kernel_rfl
@[push_cast] theorem tk34 : tk Tryz.prog 34 = .scal := by kernel_rfl
@[push_cast] theorem zc34 : zc Tryz.prog 34 = some [.nilFunc] := by kernel_rfl
@[push_cast] theorem nk34 : nk Tryz.prog 34 = .fnc := by kernel_rfl
@[push_cast] theorem cc34 : Go.Abs.concrete Tryz.prog 34 = true := by kernel_rfl
@[push_cast] theorem isl34 : isSlc Tryz.prog 34 = false := by kernel_rfl
@[push_cast] theorem ist34 : isStr Tryz.prog 34 = false := by kernel_rfl
@[push_cast] theorem ik34 : ikd Tryz.prog 34 = none := by kernel_rfl
@[push_cast] theorem tk35 : tk Tryz.prog 35 = .aggr 4 := by kernel_rfl
@[push_cast] theorem zc35 : zc Tryz.prog 35 = some [.slice none 0 0, .slice none 0 0, .slice none 0 0, .bool false] := by kernel_rfl
@[push_cast] theorem fld35_0 : fld Tryz.prog 35 0 = some (0, .scal) := by kernel_rfl
@[push_cast] theorem fld35_1 : fld Tryz.prog 35 1 = some (1, .scal) := by kernel_rfl
@[push_cast] theorem fld35_2 : fld Tryz.prog 35 2 = some (2, .scal) := by kernel_rfl
@[push_cast] theorem fld35_3 : fld Tryz.prog 35 3 = some (3, .scal) := by kernel_rfl
@[push_cast] theorem pl35 : places Tryz.prog 35 = some [(0, 1), (1, 1), (2, 1), (3, 1)] := by kernel_rfl
@[push_cast] theorem nk35 : nk Tryz.prog 35 = .other := by kernel_rfl
@[push_cast] theorem cc35 : Go.Abs.concrete Tryz.prog 35 = true := by kernel_rfl
@[push_cast] theorem isl35 : isSlc Tryz.prog 35 = false := by kernel_rfl
@[push_cast] theorem ist35 : isStr Tryz.prog 35 = false := by kernel_rfl
@[push_cast] theorem ik35 : ikd Tryz.prog 35 = none := by kernel_rfl
@[push_cast] theorem tk36 : tk Tryz.prog 36 = .scal := by kernel_rfl
@[push_cast] theorem zc36 : zc Tryz.prog 36 = some [.nilFunc] := by kernel_rfl
@[push_cast] theorem nk36 : nk Tryz.prog 36 = .fnc := by kernel_rfl
@[push_cast] theorem cc36 : Go.Abs.concrete Tryz.prog 36 = true := by kernel_rfl
@[push_cast] theorem isl36 : isSlc Tryz.prog 36 = false := by kernel_rfl
@[push_cast] theorem ist36 : isStr Tryz.prog 36 = false := by kernel_rfl
@[push_cast] theorem ik36 : ikd Tryz.prog 36 = none := by kernel_rfl
@[push_cast] theorem tk37 : tk Tryz.prog 37 = .scal := by kernel_rfl
@[push_cast] theorem zc37 : zc Tryz.prog 37 = some [.nilFunc] := by kernel_rfl
@[push_cast] theorem nk37 : nk Tryz.prog 37 = .fnc := by kernel_rfl
@[push_cast] theorem cc37 : Go.Abs.concrete Tryz.prog 37 = true := by kernel_rfl
@[push_cast] theorem isl37 : isSlc Tryz.prog 37 = false := by kernel_rfl
@[push_cast] theorem ist37 : isStr Tryz.prog 37 = false := by kernel_rfl
@[push_cast] theorem ik37 : ikd Tryz.prog 37 = none := by kernel_rfl
@[push_cast] theorem tk38 : tk Tryz.prog 38 = .scal := by kernel_rfl
@[push_cast] theorem zc38 : zc Tryz.prog 38 = some [.nilFunc] := by kernel_rfl
@[push_cast] theorem nk38 : nk Tryz.prog 38 = .fnc := by kernel_rfl
@[push_cast] theorem cc38 : Go.Abs.concrete Tryz.prog 38 = true := by kernel_rfl
@[push_cast] theorem isl38 : isSlc Tryz.prog 38 = false := by kernel_rfl
@[push_cast] theorem ist38 : isStr Tryz.prog 38 = false := by kernel_rfl
@[push_cast] theorem ik38 : ikd Tryz.prog 38 = none := by kernel_rfl
@[push_cast] theorem tk39 : tk Tryz.prog 39 = .scal := by kernel_rfl
@[push_cast] theorem zc39 : zc Tryz.prog 39 = some [.nilFunc] := by kernel_rfl
@[push_cast] theorem nk39 : nk Tryz.prog 39 = .fnc := by kernel_rfl
@[push_cast] theorem cc39 : Go.Abs.concrete Tryz.prog 39 = true := by kernel_rfl
@[push_cast] theorem isl39 : isSlc Tryz.prog 39 = false := by kernel_rfl
@[push_cast] theorem ist39 : isStr Tryz.prog 39 = false := by kernel_rfl
@[push_cast] theorem ik39 : ikd Tryz.prog 39 = none := by kernel_rfl
@[push_cast] theorem tk40 : tk Tryz.prog 40 = .scal := by kernel_rfl
@[push_cast] theorem zc40 : zc Tryz.prog 40 = some [.slice none 0 0] := by kernel_rfl
@[push_cast] theorem nk40 : nk Tryz.prog 40 = .slc := by kernel_rfl
@[push_cast] theorem cc40 : Go.Abs.concrete Tryz.prog 40 = true := by kernel_rfl
@[push_cast] theorem isl40 : isSlc Tryz.prog 40 = true := by kernel_rfl
@[push_cast] theorem ist40 : isStr Tryz.prog 40 = false := by kernel_rfl
@[push_cast] theorem ik40 : ikd Tryz.prog 40 = none := by kernel_rfl
@[push_cast] theorem es40 : elSz Tryz.prog 40 = some 1 := by kernel_rfl
@[push_cast] theorem eb40 : elB Tryz.prog 40 = 1 := by kernel_rfl
@[push_cast] theorem el40 : elT Tryz.prog 40 = some 5 := by kernel_rfl
@[push_cast] theorem by40 : isBys Tryz.prog 40 = true := by kernel_rfl
@[push_cast] theorem tk41 : tk Tryz.prog 41 = .aggr 4 := by kernel_rfl
@[push_cast] theorem zc41 : zc Tryz.prog 41 = some [.int .u8 0, .int .u8 0, .slice none 0 0, .slice none 0 0] := by kernel_rfl
@[push_cast] theorem fld41_0 : fld Tryz.prog 41 0 = some (0, .scal) := by kernel_rfl
@[push_cast] theorem fld41_1 : fld Tryz.prog 41 1 = some (1, .scal) := by kernel_rfl
@[push_cast] theorem fld41_2 : fld Tryz.prog 41 2 = some (2, .scal) := by kernel_rfl
@[push_cast] theorem fld41_3 : fld Tryz.prog 41 3 = some (3, .scal) := by kernel_rfl
@[push_cast] theorem pl41 : places Tryz.prog 41 = some [(0, 1), (1, 1), (2, 1), (3, 1)] := by kernel_rfl
@[push_cast] theorem nk41 : nk Tryz.prog 41 = .other := by kernel_rfl
@[push_cast] theorem cc41 : Go.Abs.concrete Tryz.prog 41 = true := by kernel_rfl
@[push_cast] theorem isl41 : isSlc Tryz.prog 41 = false := by kernel_rfl
@[push_cast] theorem ist41 : isStr Tryz.prog 41 = false := by kernel_rfl
@[push_cast] theorem ik41 : ikd Tryz.prog 41 = none := by kernel_rfl
@[push_cast] theorem tk42 : tk Tryz.prog 42 = .aggr 4 := by kernel_rfl
@[push_cast] theorem zc42 : zc Tryz.prog 42 = some [.int .u8 0, .int .u8 0, .slice none 0 0, .slice none 0 0] := by kernel_rfl
@[push_cast] theorem fld42_0 : fld Tryz.prog 42 0 = some (0, .scal) := by kernel_rfl
@[push_cast] theorem fld42_1 : fld Tryz.prog 42 1 = some (1, .scal) := by kernel_rfl
@[push_cast] theorem fld42_2 : fld Tryz.prog 42 2 = some (2, .scal) := by kernel_rfl
@[push_cast] theorem fld42_3 : fld Tryz.prog 42 3 = some (3, .scal) := by kernel_rfl
@[push_cast] theorem pl42 : places Tryz.prog 42 = some [(0, 1), (1, 1), (2, 1), (3, 1)] := by kernel_rfl
@[push_cast] theorem nk42 : nk Tryz.prog 42 = .other := by kernel_rfl
@[push_cast] theorem cc42 : Go.Abs.concrete Tryz.prog 42 = true := by kernel_rfl
@[push_cast] theorem isl42 : isSlc Tryz.prog 42 = false := by kernel_rfl
@[push_cast] theorem ist42 : isStr Tryz.prog 42 = false := by kernel_rfl
@[push_cast] theorem ik42 : ikd Tryz.prog 42 = none := by kernel_rfl
@[push_cast] theorem tk43 : tk Tryz.prog 43 = .scal := by kernel_rfl
@[push_cast] theorem zc43 : zc Tryz.prog 43 = some [.nilFunc] := by kernel_rfl
@[push_cast] theorem nk43 : nk Tryz.prog 43 = .fnc := by kernel_rfl
@[push_cast] theorem cc43 : Go.Abs.concrete Tryz.prog 43 = true := by kernel_rfl
@[push_cast] theorem isl43 : isSlc Tryz.prog 43 = false := by kernel_rfl
@[push_cast] theorem ist43 : isStr Tryz.prog 43 = false := by kernel_rfl
@[push_cast] theorem ik43 : ikd Tryz.prog 43 = none := by kernel_rfl
@[push_cast] theorem tk45 : tk Tryz.prog 45 = .scal := by kernel_rfl
@[push_cast] theorem zc45 : zc Tryz.prog 45 = some [.nilFunc] := by kernel_rfl
@[push_cast] theorem nk45 : nk Tryz.prog 45 = .fnc := by kernel_rfl
@[push_cast] theorem cc45 : Go.Abs.concrete Tryz.prog 45 = true := by kernel_rfl
@[push_cast] theorem isl45 : isSlc Tryz.prog 45 = false := by kernel_rfl
@[push_cast] theorem ist45 : isStr Tryz.prog 45 = false := by kernel_rfl
@[push_cast] theorem ik45 : ikd Tryz.prog 45 = none := by kernel_rfl
@[push_cast] theorem tk46 : tk Tryz.prog 46 = .scal := by kernel_rfl
@[push_cast] theorem zc46 : zc Tryz.prog 46 = some [.nilFunc] := by kernel_rfl
@[push_cast] theorem nk46 : nk Tryz.prog 46 = .fnc := by kernel_rfl
@[push_cast] theorem cc46 : Go.Abs.concrete Tryz.prog 46 = true := by kernel_rfl
@[push_cast] theorem isl46 : isSlc Tryz.prog 46 = false := by kernel_rfl
@[push_cast] theorem ist46 : isStr Tryz.prog 46 = false := by kernel_rfl
@[push_cast] theorem ik46 : ikd Tryz.prog 46 = none := by kernel_rfl
@[push_cast] theorem tk47 : tk Tryz.prog 47 = .scal := by kernel_rfl
@[push_cast] theorem zc47 : zc Tryz.prog 47 = some [.nilFunc] := by kernel_rfl
@[push_cast] theorem nk47 : nk Tryz.prog 47 = .fnc := by kernel_rfl
@[push_cast] theorem cc47 : Go.Abs.concrete Tryz.prog 47 = true := by kernel_rfl
@[push_cast] theorem isl47 : isSlc Tryz.prog 47 = false := by kernel_rfl
@[push_cast] theorem ist47 : isStr Tryz.prog 47 = false := by kernel_rfl
@[push_cast] theorem ik47 : ikd Tryz.prog 47 = none := by kernel_rfl
@[push_cast] theorem tk48 : tk Tryz.prog 48 = .aggr 3 := by kernel_rfl
@[push_cast] theorem zc48 : zc Tryz.prog 48 = some [.int .u16 0, .slice none 0 0, .slice none 0 0] := by kernel_rfl
@[push_cast] theorem fld48_0 : fld Tryz.prog 48 0 = some (0, .scal) := by kernel_rfl
@[push_cast] theorem fld48_1 : fld Tryz.prog 48 1 = some (1, .scal) := by kernel_rfl
@[push_cast] theorem fld48_2 : fld Tryz.prog 48 2 = some (2, .scal) := by kernel_rfl
@[push_cast] theorem pl48 : places Tryz.prog 48 = some [(0, 1), (1, 1), (2, 1)] := by kernel_rfl
@[push_cast] theorem nk48 : nk Tryz.prog 48 = .other := by kernel_rfl
@[push_cast] theorem cc48 : Go.Abs.concrete Tryz.prog 48 = true := by kernel_rfl
@[push_cast] theorem isl48 : isSlc Tryz.prog 48 = false := by kernel_rfl
@[push_cast] theorem ist48 : isStr Tryz.prog 48 = false := by kernel_rfl
@[push_cast] theorem ik48 : ikd Tryz.prog 48 = none := by kernel_rfl
@[push_cast] theorem tk49 : tk Tryz.prog 49 = .aggr 3 := by kernel_rfl
@[push_cast] theorem zc49 : zc Tryz.prog 49 = some [.int .u16 0, .slice none 0 0, .slice none 0 0] := by kernel_rfl
@[push_cast] theorem fld49_0 : fld Tryz.prog 49 0 = some (0, .scal) := by kernel_rfl
@[push_cast] theorem fld49_1 : fld Tryz.prog 49 1 = some (1, .scal) := by kernel_rfl
@[push_cast] theorem fld49_2 : fld Tryz.prog 49 2 = some (2, .scal) := by kernel_rfl
@[push_cast] theorem pl49 : places Tryz.prog 49 = some [(0, 1), (1, 1), (2, 1)] := by kernel_rfl
@[push_cast] theorem nk49 : nk Tryz.prog 49 = .other := by kernel_rfl
@[push_cast] theorem cc49 : Go.Abs.concrete Tryz.prog 49 = true := by kernel_rfl
@[push_cast] theorem isl49 : isSlc Tryz.prog 49 = false := by kernel_rfl
@[push_cast] theorem ist49 : isStr Tryz.prog 49 = false := by kernel_rfl
@[push_cast] theorem ik49 : ikd Tryz.prog 49 = none := by kernel_rfl
@[push_cast] theorem tk50 : tk Tryz.prog 50 = .scal := by kernel_rfl
@[push_cast] theorem zc50 : zc Tryz.prog 50 = some [.nilFunc] := by kernel_rfl
@[push_cast] theorem nk50 : nk Tryz.prog 50 = .fnc := by kernel_rfl
@[push_cast] theorem cc50 : Go.Abs.concrete Tryz.prog 50 = true := by kernel_rfl
@[push_cast] theorem isl50 : isSlc Tryz.prog 50 = false := by kernel_rfl
@[push_cast] theorem ist50 : isStr Tryz.prog 50 = false := by kernel_rfl
@[push_cast] theorem ik50 : ikd Tryz.prog 50 = none := by kernel_rfl
@[push_cast] theorem tk51 : tk Tryz.prog 51 = .scal := by kernel_rfl
@[push_cast] theorem zc51 : zc Tryz.prog 51 = some [.nilFunc] := by kernel_rfl
@[push_cast] theorem nk51 : nk Tryz.prog 51 = .fnc := by kernel_rfl
@[push_cast] theorem cc51 : Go.Abs.concrete Tryz.prog 51 = true := by kernel_rfl
@[push_cast] theorem isl51 : isSlc Tryz.prog 51 = false := by kernel_rfl
@[push_cast] theorem ist51 : isStr Tryz.prog 51 = false := by kernel_rfl
@[push_cast] theorem ik51 : ikd Tryz.prog 51 = none := by kernel_rfl
@[push_cast] theorem tk52 : tk Tryz.prog 52 = .scal := by kernel_rfl
@[push_cast] theorem zc52 : zc Tryz.prog 52 = some [.nilFunc] := by kernel_rfl
@[push_cast] theorem nk52 : nk Tryz.prog 52 = .fnc := by kernel_rfl
@[push_cast] theorem cc52 : Go.Abs.concrete Tryz.prog 52 = true := by kernel_rfl
@[push_cast] theorem isl52 : isSlc Tryz.prog 52 = false := by kernel_rfl
@[push_cast] theorem ist52 : isStr Tryz.prog 52 = false := by kernel_rfl
@[push_cast] theorem ik52 : ikd Tryz.prog 52 = none := by kernel_rfl
@[push_cast] theorem tk53 : tk Tryz.prog 53 = .scal := by kernel_rfl
@[push_cast] theorem zc53 : zc Tryz.prog 53 = some [.nilFunc] := by kernel_rfl
@[push_cast] theorem nk53 : nk Tryz.prog 53 = .fnc := by kernel_rfl
@[push_cast] theorem cc53 : Go.Abs.concrete Tryz.prog 53 = true := by kernel_rfl
@[push_cast] theorem isl53 : isSlc Tryz.prog 53 = false := by kernel_rfl
@[push_cast] theorem ist53 : isStr Tryz.prog 53 = false := by kernel_rfl
@[push_cast] theorem ik53 : ikd Tryz.prog 53 = none := by kernel_rfl
@[push_cast] theorem tk54 : tk Tryz.prog 54 = .scal := by kernel_rfl
@[push_cast] theorem zc54 : zc Tryz.prog 54 = some [.nilFunc] := by kernel_rfl
@[push_cast] theorem nk54 : nk Tryz.prog 54 = .fnc := by kernel_rfl
@[push_cast] theorem cc54 : Go.Abs.concrete Tryz.prog 54 = true := by kernel_rfl
@[push_cast] theorem isl54 : isSlc Tryz.prog 54 = false := by kernel_rfl
@[push_cast] theorem ist54 : isStr Tryz.prog 54 = false := by kernel_rfl
@[push_cast] theorem ik54 : ikd Tryz.prog 54 = none := by kernel_rfl
@[push_cast] theorem tk55 : tk Tryz.prog 55 = .scal := by kernel_rfl
@[push_cast] theorem zc55 : zc Tryz.prog 55 = some [.nilFunc] := by kernel_rfl
@[push_cast] theorem nk55 : nk Tryz.prog 55 = .fnc := by kernel_rfl
@[push_cast] theorem cc55 : Go.Abs.concrete Tryz.prog 55 = true := by kernel_rfl
@[push_cast] theorem isl55 : isSlc Tryz.prog 55 = false := by kernel_rfl
@[push_cast] theorem ist55 : isStr Tryz.prog 55 = false := by kernel_rfl
@[push_cast] theorem ik55 : ikd Tryz.prog 55 = none := by kernel_rfl
@[push_cast] theorem tk56 : tk Tryz.prog 56 = .scal := by kernel_rfl
@[push_cast] theorem zc56 : zc Tryz.prog 56 = some [.slice none 0 0] := by kernel_rfl
@[push_cast] theorem nk56 : nk Tryz.prog 56 = .slc := by kernel_rfl
@[push_cast] theorem cc56 : Go.Abs.concrete Tryz.prog 56 = true := by kernel_rfl
@[push_cast] theorem isl56 : isSlc Tryz.prog 56 = true := by kernel_rfl
@[push_cast] theorem ist56 : isStr Tryz.prog 56 = false := by kernel_rfl
@[push_cast] theorem ik56 : ikd Tryz.prog 56 = none := by kernel_rfl
@[push_cast] theorem es56 : elSz Tryz.prog 56 = some 1 := by kernel_rfl
@[push_cast] theorem eb56 : elB Tryz.prog 56 = 8 := by kernel_rfl
@[push_cast] theorem el56 : elT Tryz.prog 56 = some 3 := by kernel_rfl
@[push_cast] theorem by56 : isBys Tryz.prog 56 = false := by kernel_rfl
@[push_cast] theorem tk58 : tk Tryz.prog 58 = .scal := by kernel_rfl
@[push_cast] theorem zc58 : zc Tryz.prog 58 = some [.nilFunc] := by kernel_rfl
@[push_cast] theorem nk58 : nk Tryz.prog 58 = .fnc := by kernel_rfl
@[push_cast] theorem cc58 : Go.Abs.concrete Tryz.prog 58 = true := by kernel_rfl
@[push_cast] theorem isl58 : isSlc Tryz.prog 58 = false := by kernel_rfl
@[push_cast] theorem ist58 : isStr Tryz.prog 58 = false := by kernel_rfl
@[push_cast] theorem ik58 : ikd Tryz.prog 58 = none := by kernel_rfl
@[push_cast] theorem tk59 : tk Tryz.prog 59 = .scal := by kernel_rfl
@[push_cast] theorem zc59 : zc Tryz.prog 59 = some [.nilFunc] := by kernel_rfl
@[push_cast] theorem nk59 : nk Tryz.prog 59 = .fnc := by kernel_rfl
@[push_cast] theorem cc59 : Go.Abs.concrete Tryz.prog 59 = true := by kernel_rfl
@[push_cast] theorem isl59 : isSlc Tryz.prog 59 = false := by kernel_rfl
@[push_cast] theorem ist59 : isStr Tryz.prog 59 = false := by kernel_rfl
@[push_cast] theorem ik59 : ikd Tryz.prog 59 = none := by kernel_rfl
@[push_cast] theorem tk60 : tk Tryz.prog 60 = .scal := by kernel_rfl
@[push_cast] theorem zc60 : zc Tryz.prog 60 = some [.nilIface] := by kernel_rfl
@[push_cast] theorem nk60 : nk Tryz.prog 60 = .ifc := by kernel_rfl
@[push_cast] theorem isl60 : isSlc Tryz.prog 60 = false := by kernel_rfl
@[push_cast] theorem ist60 : isStr Tryz.prog 60 = false := by kernel_rfl
@[push_cast] theorem ik60 : ikd Tryz.prog 60 = none := by kernel_rfl
@[push_cast] theorem tk61 : tk Tryz.prog 61 = .scal := by kernel_rfl
@[push_cast] theorem zc61 : zc Tryz.prog 61 = some [.nilIface] := by kernel_rfl
@[push_cast] theorem nk61 : nk Tryz.prog 61 = .ifc := by kernel_rfl
@[push_cast] theorem isl61 : isSlc Tryz.prog 61 = false := by kernel_rfl
@[push_cast] theorem ist61 : isStr Tryz.prog 61 = false := by kernel_rfl
@[push_cast] theorem ik61 : ikd Tryz.prog 61 = none := by kernel_rfl
@[push_cast] theorem tk63 : tk Tryz.prog 63 = .scal := by kernel_rfl
@[push_cast] theorem zc63 : zc Tryz.prog 63 = some [.nilFunc] := by kernel_rfl
@[push_cast] theorem nk63 : nk Tryz.prog 63 = .fnc := by kernel_rfl
@[push_cast] theorem cc63 : Go.Abs.concrete Tryz.prog 63 = true := by kernel_rfl
@[push_cast] theorem isl63 : isSlc Tryz.prog 63 = false := by kernel_rfl
@[push_cast] theorem ist63 : isStr Tryz.prog 63 = false := by kernel_rfl
@[push_cast] theorem ik63 : ikd Tryz.prog 63 = none := by kernel_rfl
@[push_cast] theorem tk65 : tk Tryz.prog 65 = .scal := by kernel_rfl
@[push_cast] theorem zc65 : zc Tryz.prog 65 = some [.nilFunc] := by kernel_rfl
@[push_cast] theorem nk65 : nk Tryz.prog 65 = .fnc := by kernel_rfl
@[push_cast] theorem cc65 : Go.Abs.concrete Tryz.prog 65 = true := by kernel_rfl
@[push_cast] theorem isl65 : isSlc Tryz.prog 65 = false := by kernel_rfl
@[push_cast] theorem ist65 : isStr Tryz.prog 65 = false := by kernel_rfl
@[push_cast] theorem ik65 : ikd Tryz.prog 65 = none := by kernel_rfl
@[push_cast] theorem tk66 : tk Tryz.prog 66 = .scal := by kernel_rfl
@[push_cast] theorem zc66 : zc Tryz.prog 66 = some [.nilFunc] := by kernel_rfl
@[push_cast] theorem nk66 : nk Tryz.prog 66 = .fnc := by kernel_rfl
@[push_cast] theorem cc66 : Go.Abs.concrete Tryz.prog 66 = true := by kernel_rfl
@[push_cast] theorem isl66 : isSlc Tryz.prog 66 = false := by kernel_rfl
@[push_cast] theorem ist66 : isStr Tryz.prog 66 = false := by kernel_rfl
@[push_cast] theorem ik66 : ikd Tryz.prog 66 = none := by kernel_rfl
@[push_cast] theorem tk67 : tk Tryz.prog 67 = .scal := by kernel_rfl
@[push_cast] theorem zc67 : zc Tryz.prog 67 = some [.nilFunc] := by kernel_rfl
@[push_cast] theorem nk67 : nk Tryz.prog 67 = .fnc := by kernel_rfl
@[push_cast] theorem cc67 : Go.Abs.concrete Tryz.prog 67 = true := by kernel_rfl
@[push_cast] theorem isl67 : isSlc Tryz.prog 67 = false := by kernel_rfl
@[push_cast] theorem ist67 : isStr Tryz.prog 67 = false := by kernel_rfl
@[push_cast] theorem ik67 : ikd Tryz.prog 67 = none := by kernel_rfl
@[push_cast] theorem tk68 : tk Tryz.prog 68 = .aggr 7 := by kernel_rfl
@[push_cast] theorem zc68 : zc Tryz.prog 68 = some [.int .u8 0, .string ⟨#[]⟩, .int .u8 0, .int .i64 0, .int .i64 0, .int .i64 0, .int .i64 0] := by kernel_rfl
@[push_cast] theorem fld68_0 : fld Tryz.prog 68 0 = some (0, .scal) := by kernel_rfl
@[push_cast] theorem fld68_1 : fld Tryz.prog 68 1 = some (1, .scal) := by kernel_rfl
@[push_cast] theorem fld68_2 : fld Tryz.prog 68 2 = some (2, .scal) := by kernel_rfl
@[push_cast] theorem fld68_3 : fld Tryz.prog 68 3 = some (3, .scal) := by kernel_rfl
@[push_cast] theorem fld68_4 : fld Tryz.prog 68 4 = some (4, .scal) := by kernel_rfl
@[push_cast] theorem fld68_5 : fld Tryz.prog 68 5 = some (5, .scal) := by kernel_rfl
@[push_cast] theorem fld68_6 : fld Tryz.prog 68 6 = some (6, .scal) := by kernel_rfl
@[push_cast] theorem pl68 : places Tryz.prog 68 = some [(0, 1), (1, 1), (2, 1), (3, 1), (4, 1), (5, 1), (6, 1)] := by kernel_rfl
@[push_cast] theorem nk68 : nk Tryz.prog 68 = .other := by kernel_rfl
@[push_cast] theorem cc68 : Go.Abs.concrete Tryz.prog 68 = true := by kernel_rfl
@[push_cast] theorem isl68 : isSlc Tryz.prog 68 = false := by kernel_rfl
@[push_cast] theorem ist68 : isStr Tryz.prog 68 = false := by kernel_rfl
@[push_cast] theorem ik68 : ikd Tryz.prog 68 = none := by kernel_rfl
@[push_cast] theorem tk69 : tk Tryz.prog 69 = .aggr 7 := by kernel_rfl
@[push_cast] theorem zc69 : zc Tryz.prog 69 = some [.int .u8 0, .string ⟨#[]⟩, .int .u8 0, .int .i64 0, .int .i64 0, .int .i64 0, .int .i64 0] := by kernel_rfl
@[push_cast] theorem fld69_0 : fld Tryz.prog 69 0 = some (0, .scal) := by kernel_rfl
@[push_cast] theorem fld69_1 : fld Tryz.prog 69 1 = some (1, .scal) := by kernel_rfl
@[push_cast] theorem fld69_2 : fld Tryz.prog 69 2 = some (2, .scal) := by kernel_rfl
@[push_cast] theorem fld69_3 : fld Tryz.prog 69 3 = some (3, .scal) := by kernel_rfl
@[push_cast] theorem fld69_4 : fld Tryz.prog 69 4 = some (4, .scal) := by kernel_rfl
@[push_cast] theorem fld69_5 : fld Tryz.prog 69 5 = some (5, .scal) := by kernel_rfl
@[push_cast] theorem fld69_6 : fld Tryz.prog 69 6 = some (6, .scal) := by kernel_rfl
@[push_cast] theorem pl69 : places Tryz.prog 69 = some [(0, 1), (1, 1), (2, 1), (3, 1), (4, 1), (5, 1), (6, 1)] := by kernel_rfl
@[push_cast] theorem nk69 : nk Tryz.prog 69 = .other := by kernel_rfl
@[push_cast] theorem cc69 : Go.Abs.concrete Tryz.prog 69 = true := by kernel_rfl
@[push_cast] theorem isl69 : isSlc Tryz.prog 69 = false := by kernel_rfl
@[push_cast] theorem ist69 : isStr Tryz.prog 69 = false := by kernel_rfl
@[push_cast] theorem ik69 : ikd Tryz.prog 69 = none := by kernel_rfl
@[push_cast] theorem tk71 : tk Tryz.prog 71 = .scal := by kernel_rfl
@[push_cast] theorem zc71 : zc Tryz.prog 71 = some [.nilFunc] := by kernel_rfl
@[push_cast] theorem nk71 : nk Tryz.prog 71 = .fnc := by kernel_rfl
@[push_cast] theorem cc71 : Go.Abs.concrete Tryz.prog 71 = true := by kernel_rfl
@[push_cast] theorem isl71 : isSlc Tryz.prog 71 = false := by kernel_rfl
@[push_cast] theorem ist71 : isStr Tryz.prog 71 = false := by kernel_rfl
@[push_cast] theorem ik71 : ikd Tryz.prog 71 = none := by kernel_rfl
@[push_cast] theorem tk73 : tk Tryz.prog 73 = .scal := by kernel_rfl
@[push_cast] theorem zc73 : zc Tryz.prog 73 = some [.nilFunc] := by kernel_rfl
@[push_cast] theorem nk73 : nk Tryz.prog 73 = .fnc := by kernel_rfl
@[push_cast] theorem cc73 : Go.Abs.concrete Tryz.prog 73 = true := by kernel_rfl
@[push_cast] theorem isl73 : isSlc Tryz.prog 73 = false := by kernel_rfl
@[push_cast] theorem ist73 : isStr Tryz.prog 73 = false := by kernel_rfl
@[push_cast] theorem ik73 : ikd Tryz.prog 73 = none := by kernel_rfl
@[push_cast] theorem tk74 : tk Tryz.prog 74 = .scal := by kernel_rfl
@[push_cast] theorem zc74 : zc Tryz.prog 74 = some [.nilFunc] := by kernel_rfl
@[push_cast] theorem nk74 : nk Tryz.prog 74 = .fnc := by kernel_rfl
@[push_cast] theorem cc74 : Go.Abs.concrete Tryz.prog 74 = true := by kernel_rfl
@[push_cast] theorem isl74 : isSlc Tryz.prog 74 = false := by kernel_rfl
@[push_cast] theorem ist74 : isStr Tryz.prog 74 = false := by kernel_rfl
@[push_cast] theorem ik74 : ikd Tryz.prog 74 = none := by kernel_rfl
@[push_cast] theorem tk75 : tk Tryz.prog 75 = .scal := by kernel_rfl
@[push_cast] theorem zc75 : zc Tryz.prog 75 = some [.nilFunc] := by kernel_rfl
@[push_cast] theorem nk75 : nk Tryz.prog 75 = .fnc := by kernel_rfl
@[push_cast] theorem cc75 : Go.Abs.concrete Tryz.prog 75 = true := by kernel_rfl
@[push_cast] theorem isl75 : isSlc Tryz.prog 75 = false := by kernel_rfl
@[push_cast] theorem ist75 : isStr Tryz.prog 75 = false := by kernel_rfl
@[push_cast] theorem ik75 : ikd Tryz.prog 75 = none := by kernel_rfl
@[push_cast] theorem tk76 : tk Tryz.prog 76 = .scal := by kernel_rfl
@[push_cast] theorem zc76 : zc Tryz.prog 76 = some [.nilFunc] := by kernel_rfl
@[push_cast] theorem nk76 : nk Tryz.prog 76 = .fnc := by kernel_rfl
@[push_cast] theorem cc76 : Go.Abs.concrete Tryz.prog 76 = true := by kernel_rfl
@[push_cast] theorem isl76 : isSlc Tryz.prog 76 = false := by kernel_rfl
@[push_cast] theorem ist76 : isStr Tryz.prog 76 = false := by kernel_rfl
@[push_cast] theorem ik76 : ikd Tryz.prog 76 = none := by kernel_rfl
@[push_cast] theorem tk77 : tk Tryz.prog 77 = .aggr 7 := by kernel_rfl
@[push_cast] theorem zc77 : zc Tryz.prog 77 = some [.int .u8 0, .string ⟨#[]⟩, .int .u8 0, .int .i64 0, .int .i64 0, .int .i64 0, .int .i64 0] := by kernel_rfl
@[push_cast] theorem fld77_0 : fld Tryz.prog 77 0 = some (0, .scal) := by kernel_rfl
@[push_cast] theorem fld77_1 : fld Tryz.prog 77 1 = some (1, .scal) := by kernel_rfl
@[push_cast] theorem fld77_2 : fld Tryz.prog 77 2 = some (2, .scal) := by kernel_rfl
@[push_cast] theorem fld77_3 : fld Tryz.prog 77 3 = some (3, .scal) := by kernel_rfl
@[push_cast] theorem fld77_4 : fld Tryz.prog 77 4 = some (4, .scal) := by kernel_rfl
@[push_cast] theorem fld77_5 : fld Tryz.prog 77 5 = some (5, .scal) := by kernel_rfl
@[push_cast] theorem fld77_6 : fld Tryz.prog 77 6 = some (6, .scal) := by kernel_rfl
@[push_cast] theorem pl77 : places Tryz.prog 77 = some [(0, 1), (1, 1), (2, 1), (3, 1), (4, 1), (5, 1), (6, 1)] := by kernel_rfl
@[push_cast] theorem nk77 : nk Tryz.prog 77 = .other := by kernel_rfl
@[push_cast] theorem cc77 : Go.Abs.concrete Tryz.prog 77 = true := by kernel_rfl
@[push_cast] theorem isl77 : isSlc Tryz.prog 77 = false := by kernel_rfl
@[push_cast] theorem ist77 : isStr Tryz.prog 77 = false := by kernel_rfl
@[push_cast] theorem ik77 : ikd Tryz.prog 77 = none := by kernel_rfl
@[push_cast] theorem tk79 : tk Tryz.prog 79 = .scal := by kernel_rfl
@[push_cast] theorem zc79 : zc Tryz.prog 79 = some [.nilFunc] := by kernel_rfl
@[push_cast] theorem nk79 : nk Tryz.prog 79 = .fnc := by kernel_rfl
@[push_cast] theorem cc79 : Go.Abs.concrete Tryz.prog 79 = true := by kernel_rfl
@[push_cast] theorem isl79 : isSlc Tryz.prog 79 = false := by kernel_rfl
@[push_cast] theorem ist79 : isStr Tryz.prog 79 = false := by kernel_rfl
@[push_cast] theorem ik79 : ikd Tryz.prog 79 = none := by kernel_rfl
@[push_cast] theorem tk80 : tk Tryz.prog 80 = .scal := by kernel_rfl
@[push_cast] theorem zc80 : zc Tryz.prog 80 = some [.nilFunc] := by kernel_rfl
@[push_cast] theorem nk80 : nk Tryz.prog 80 = .fnc := by kernel_rfl
@[push_cast] theorem cc80 : Go.Abs.concrete Tryz.prog 80 = true := by kernel_rfl
@[push_cast] theorem isl80 : isSlc Tryz.prog 80 = false := by kernel_rfl
@[push_cast] theorem ist80 : isStr Tryz.prog 80 = false := by kernel_rfl
@[push_cast] theorem ik80 : ikd Tryz.prog 80 = none := by kernel_rfl
@[push_cast] theorem tk81 : tk Tryz.prog 81 = .scal := by kernel_rfl
@[push_cast] theorem zc81 : zc Tryz.prog 81 = some [.nilFunc] := by kernel_rfl
@[push_cast] theorem nk81 : nk Tryz.prog 81 = .fnc := by kernel_rfl
@[push_cast] theorem cc81 : Go.Abs.concrete Tryz.prog 81 = true := by kernel_rfl
@[push_cast] theorem isl81 : isSlc Tryz.prog 81 = false := by kernel_rfl
@[push_cast] theorem ist81 : isStr Tryz.prog 81 = false := by kernel_rfl
@[push_cast] theorem ik81 : ikd Tryz.prog 81 = none := by kernel_rfl
@[push_cast] theorem tk82 : tk Tryz.prog 82 = .aggr 7 := by kernel_rfl
@[push_cast] theorem zc82 : zc Tryz.prog 82 = some [.int .i64 0, .int .u16 0, .string ⟨#[]⟩, .int .i64 0, .int .i64 0, .int .i64 0, .int .i64 0] := by kernel_rfl
@[push_cast] theorem fld82_0 : fld Tryz.prog 82 0 = some (0, .scal) := by kernel_rfl
@[push_cast] theorem fld82_1 : fld Tryz.prog 82 1 = some (1, .scal) := by kernel_rfl
@[push_cast] theorem fld82_2 : fld Tryz.prog 82 2 = some (2, .scal) := by kernel_rfl
@[push_cast] theorem fld82_3 : fld Tryz.prog 82 3 = some (3, .scal) := by kernel_rfl
@[push_cast] theorem fld82_4 : fld Tryz.prog 82 4 = some (4, .scal) := by kernel_rfl
@[push_cast] theorem fld82_5 : fld Tryz.prog 82 5 = some (5, .scal) := by kernel_rfl
@[push_cast] theorem fld82_6 : fld Tryz.prog 82 6 = some (6, .scal) := by kernel_rfl
@[push_cast] theorem pl82 : places Tryz.prog 82 = some [(0, 1), (1, 1), (2, 1), (3, 1), (4, 1), (5, 1), (6, 1)] := by kernel_rfl
@[push_cast] theorem nk82 : nk Tryz.prog 82 = .other := by kernel_rfl
@[push_cast] theorem cc82 : Go.Abs.concrete Tryz.prog 82 = true := by kernel_rfl
@[push_cast] theorem isl82 : isSlc Tryz.prog 82 = false := by kernel_rfl
@[push_cast] theorem ist82 : isStr Tryz.prog 82 = false := by kernel_rfl
@[push_cast] theorem ik82 : ikd Tryz.prog 82 = none := by kernel_rfl
@[push_cast] theorem tk83 : tk Tryz.prog 83 = .aggr 7 := by kernel_rfl
@[push_cast] theorem zc83 : zc Tryz.prog 83 = some [.int .i64 0, .int .u16 0, .string ⟨#[]⟩, .int .i64 0, .int .i64 0, .int .i64 0, .int .i64 0] := by kernel_rfl
@[push_cast] theorem fld83_0 : fld Tryz.prog 83 0 = some (0, .scal) := by kernel_rfl
@[push_cast] theorem fld83_1 : fld Tryz.prog 83 1 = some (1, .scal) := by kernel_rfl
@[push_cast] theorem fld83_2 : fld Tryz.prog 83 2 = some (2, .scal) := by kernel_rfl
@[push_cast] theorem fld83_3 : fld Tryz.prog 83 3 = some (3, .scal) := by kernel_rfl
@[push_cast] theorem fld83_4 : fld Tryz.prog 83 4 = some (4, .scal) := by kernel_rfl
@[push_cast] theorem fld83_5 : fld Tryz.prog 83 5 = some (5, .scal) := by kernel_rfl
@[push_cast] theorem fld83_6 : fld Tryz.prog 83 6 = some (6, .scal) := by kernel_rfl
@[push_cast] theorem pl83 : places Tryz.prog 83 = some [(0, 1), (1, 1), (2, 1), (3, 1), (4, 1), (5, 1), (6, 1)] := by kernel_rfl
@[push_cast] theorem nk83 : nk Tryz.prog 83 = .other := by kernel_rfl
@[push_cast] theorem cc83 : Go.Abs.concrete Tryz.prog 83 = true := by kernel_rfl
@[push_cast] theorem isl83 : isSlc Tryz.prog 83 = false := by kernel_rfl
@[push_cast] theorem ist83 : isStr Tryz.prog 83 = false := by kernel_rfl
@[push_cast] theorem ik83 : ikd Tryz.prog 83 = none := by kernel_rfl
@[push_cast] theorem tk84 : tk Tryz.prog 84 = .scal := by kernel_rfl
@[push_cast] theorem zc84 : zc Tryz.prog 84 = some [.nilFunc] := by kernel_rfl
@[push_cast] theorem nk84 : nk Tryz.prog 84 = .fnc := by kernel_rfl
@[push_cast] theorem cc84 : Go.Abs.concrete Tryz.prog 84 = true := by kernel_rfl
@[push_cast] theorem isl84 : isSlc Tryz.prog 84 = false := by kernel_rfl
@[push_cast] theorem ist84 : isStr Tryz.prog 84 = false := by kernel_rfl
@[push_cast] theorem ik84 : ikd Tryz.prog 84 = none := by kernel_rfl
@[push_cast] theorem tk85 : tk Tryz.prog 85 = .scal := by kernel_rfl
@[push_cast] theorem zc85 : zc Tryz.prog 85 = some [.nilFunc] := by kernel_rfl
@[push_cast] theorem nk85 : nk Tryz.prog 85 = .fnc := by kernel_rfl
@[push_cast] theorem cc85 : Go.Abs.concrete Tryz.prog 85 = true := by kernel_rfl
@[push_cast] theorem isl85 : isSlc Tryz.prog 85 = false := by kernel_rfl
@[push_cast] theorem ist85 : isStr Tryz.prog 85 = false := by kernel_rfl
@[push_cast] theorem ik85 : ikd Tryz.prog 85 = none := by kernel_rfl
@[push_cast] theorem tk86 : tk Tryz.prog 86 = .scal := by kernel_rfl
@[push_cast] theorem zc86 : zc Tryz.prog 86 = some [.nilFunc] := by kernel_rfl
@[push_cast] theorem nk86 : nk Tryz.prog 86 = .fnc := by kernel_rfl
@[push_cast] theorem cc86 : Go.Abs.concrete Tryz.prog 86 = true := by kernel_rfl
@[push_cast] theorem isl86 : isSlc Tryz.prog 86 = false := by kernel_rfl
@[push_cast] theorem ist86 : isStr Tryz.prog 86 = false := by kernel_rfl
@[push_cast] theorem ik86 : ikd Tryz.prog 86 = none := by kernel_rfl
@[push_cast] theorem tk87 : tk Tryz.prog 87 = .scal := by kernel_rfl
@[push_cast] theorem zc87 : zc Tryz.prog 87 = some [.nilFunc] := by kernel_rfl
@[push_cast] theorem nk87 : nk Tryz.prog 87 = .fnc := by kernel_rfl
@[push_cast] theorem cc87 : Go.Abs.concrete Tryz.prog 87 = true := by kernel_rfl
@[push_cast] theorem isl87 : isSlc Tryz.prog 87 = false := by kernel_rfl
@[push_cast] theorem ist87 : isStr Tryz.prog 87 = false := by kernel_rfl
@[push_cast] theorem ik87 : ikd Tryz.prog 87 = none := by kernel_rfl
@[push_cast] theorem tk88 : tk Tryz.prog 88 = .scal := by kernel_rfl
@[push_cast] theorem zc88 : zc Tryz.prog 88 = some [.nilFunc] := by kernel_rfl
@[push_cast] theorem nk88 : nk Tryz.prog 88 = .fnc := by kernel_rfl
@[push_cast] theorem cc88 : Go.Abs.concrete Tryz.prog 88 = true := by kernel_rfl
@[push_cast] theorem isl88 : isSlc Tryz.prog 88 = false := by kernel_rfl
@[push_cast] theorem ist88 : isStr Tryz.prog 88 = false := by kernel_rfl
@[push_cast] theorem ik88 : ikd Tryz.prog 88 = none := by kernel_rfl
@[push_cast] theorem tk89 : tk Tryz.prog 89 = .scal := by kernel_rfl
@[push_cast] theorem zc89 : zc Tryz.prog 89 = some [.nilFunc] := by kernel_rfl
@[push_cast] theorem nk89 : nk Tryz.prog 89 = .fnc := by kernel_rfl
@[push_cast] theorem cc89 : Go.Abs.concrete Tryz.prog 89 = true := by kernel_rfl
@[push_cast] theorem isl89 : isSlc Tryz.prog 89 = false := by kernel_rfl
@[push_cast] theorem ist89 : isStr Tryz.prog 89 = false := by kernel_rfl
@[push_cast] theorem ik89 : ikd Tryz.prog 89 = none := by kernel_rfl
@[push_cast] theorem tk90 : tk Tryz.prog 90 = .scal := by kernel_rfl
@[push_cast] theorem zc90 : zc Tryz.prog 90 = some [.nilFunc] := by kernel_rfl
@[push_cast] theorem nk90 : nk Tryz.prog 90 = .fnc := by kernel_rfl
@[push_cast] theorem cc90 : Go.Abs.concrete Tryz.prog 90 = true := by kernel_rfl
@[push_cast] theorem isl90 : isSlc Tryz.prog 90 = false := by kernel_rfl
@[push_cast] theorem ist90 : isStr Tryz.prog 90 = false := by kernel_rfl
@[push_cast] theorem ik90 : ikd Tryz.prog 90 = none := by kernel_rfl
@[push_cast] theorem tk91 : tk Tryz.prog 91 = .scal := by kernel_rfl
@[push_cast] theorem zc91 : zc Tryz.prog 91 = some [.nilFunc] := by kernel_rfl
@[push_cast] theorem nk91 : nk Tryz.prog 91 = .fnc := by kernel_rfl
@[push_cast] theorem cc91 : Go.Abs.concrete Tryz.prog 91 = true := by kernel_rfl
@[push_cast] theorem isl91 : isSlc Tryz.prog 91 = false := by kernel_rfl
@[push_cast] theorem ist91 : isStr Tryz.prog 91 = false := by kernel_rfl
@[push_cast] theorem ik91 : ikd Tryz.prog 91 = none := by kernel_rfl
@[push_cast] theorem tk92 : tk Tryz.prog 92 = .scal := by kernel_rfl
@[push_cast] theorem zc92 : zc Tryz.prog 92 = some [.nilFunc] := by kernel_rfl
@[push_cast] theorem nk92 : nk Tryz.prog 92 = .fnc := by kernel_rfl
@[push_cast] theorem cc92 : Go.Abs.concrete Tryz.prog 92 = true := by kernel_rfl
@[push_cast] theorem isl92 : isSlc Tryz.prog 92 = false := by kernel_rfl
@[push_cast] theorem ist92 : isStr Tryz.prog 92 = false := by kernel_rfl
@[push_cast] theorem ik92 : ikd Tryz.prog 92 = none := by kernel_rfl
@[push_cast] theorem tk93 : tk Tryz.prog 93 = .scal := by kernel_rfl
@[push_cast] theorem zc93 : zc Tryz.prog 93 = some [.nilFunc] := by kernel_rfl
@[push_cast] theorem nk93 : nk Tryz.prog 93 = .fnc := by kernel_rfl
@[push_cast] theorem cc93 : Go.Abs.concrete Tryz.prog 93 = true := by kernel_rfl
@[push_cast] theorem isl93 : isSlc Tryz.prog 93 = false := by kernel_rfl
@[push_cast] theorem ist93 : isStr Tryz.prog 93 = false := by kernel_rfl
@[push_cast] theorem ik93 : ikd Tryz.prog 93 = none := by kernel_rfl
@[push_cast] theorem tk94 : tk Tryz.prog 94 = .scal := by kernel_rfl
@[push_cast] theorem zc94 : zc Tryz.prog 94 = some [.int .u64 0] := by kernel_rfl
@[push_cast] theorem nk94 : nk Tryz.prog 94 = .other := by kernel_rfl
@[push_cast] theorem cc94 : Go.Abs.concrete Tryz.prog 94 = true := by kernel_rfl
@[push_cast] theorem isl94 : isSlc Tryz.prog 94 = false := by kernel_rfl
@[push_cast] theorem ist94 : isStr Tryz.prog 94 = false := by kernel_rfl
@[push_cast] theorem ik94 : ikd Tryz.prog 94 = some .u64 := by kernel_rfl
@[push_cast] theorem tk95 : tk Tryz.prog 95 = .scal := by kernel_rfl
@[push_cast] theorem zc95 : zc Tryz.prog 95 = some [.nilFunc] := by kernel_rfl
@[push_cast] theorem nk95 : nk Tryz.prog 95 = .fnc := by kernel_rfl
@[push_cast] theorem cc95 : Go.Abs.concrete Tryz.prog 95 = true := by kernel_rfl
@[push_cast] theorem isl95 : isSlc Tryz.prog 95 = false := by kernel_rfl
@[push_cast] theorem ist95 : isStr Tryz.prog 95 = false := by kernel_rfl
@[push_cast] theorem ik95 : ikd Tryz.prog 95 = none := by kernel_rfl
@[push_cast] theorem tk96 : tk Tryz.prog 96 = .scal := by kernel_rfl
@[push_cast] theorem zc96 : zc Tryz.prog 96 = some [.nilFunc] := by kernel_rfl
@[push_cast] theorem nk96 : nk Tryz.prog 96 = .fnc := by kernel_rfl
@[push_cast] theorem cc96 : Go.Abs.concrete Tryz.prog 96 = true := by kernel_rfl
@[push_cast] theorem isl96 : isSlc Tryz.prog 96 = false := by kernel_rfl
@[push_cast] theorem ist96 : isStr Tryz.prog 96 = false := by kernel_rfl
@[push_cast] theorem ik96 : ikd Tryz.prog 96 = none := by kernel_rfl
@[push_cast] theorem tk97 : tk Tryz.prog 97 = .scal := by kernel_rfl
@[push_cast] theorem zc97 : zc Tryz.prog 97 = some [.nilFunc] := by kernel_rfl
@[push_cast] theorem nk97 : nk Tryz.prog 97 = .fnc := by kernel_rfl
@[push_cast] theorem cc97 : Go.Abs.concrete Tryz.prog 97 = true := by kernel_rfl
@[push_cast] theorem isl97 : isSlc Tryz.prog 97 = false := by kernel_rfl
@[push_cast] theorem ist97 : isStr Tryz.prog 97 = false := by kernel_rfl
@[push_cast] theorem ik97 : ikd Tryz.prog 97 = none := by kernel_rfl
@[push_cast] theorem tk98 : tk Tryz.prog 98 = .scal := by kernel_rfl
@[push_cast] theorem zc98 : zc Tryz.prog 98 = some [.nilFunc] := by kernel_rfl
@[push_cast] theorem nk98 : nk Tryz.prog 98 = .fnc := by kernel_rfl
@[push_cast] theorem cc98 : Go.Abs.concrete Tryz.prog 98 = true := by kernel_rfl
@[push_cast] theorem isl98 : isSlc Tryz.prog 98 = false := by kernel_rfl
@[push_cast] theorem ist98 : isStr Tryz.prog 98 = false := by kernel_rfl
@[push_cast] theorem ik98 : ikd Tryz.prog 98 = none := by kernel_rfl
@[push_cast] theorem tk99 : tk Tryz.prog 99 = .scal := by kernel_rfl
@[push_cast] theorem zc99 : zc Tryz.prog 99 = some [.nilFunc] := by kernel_rfl
@[push_cast] theorem nk99 : nk Tryz.prog 99 = .fnc := by kernel_rfl
@[push_cast] theorem cc99 : Go.Abs.concrete Tryz.prog 99 = true := by kernel_rfl
@[push_cast] theorem isl99 : isSlc Tryz.prog 99 = false := by kernel_rfl
@[push_cast] theorem ist99 : isStr Tryz.prog 99 = false := by kernel_rfl
@[push_cast] theorem ik99 : ikd Tryz.prog 99 = none := by kernel_rfl
@[push_cast] theorem tk100 : tk Tryz.prog 100 = .scal := by kernel_rfl
@[push_cast] theorem zc100 : zc Tryz.prog 100 = some [.nilFunc] := by kernel_rfl
@[push_cast] theorem nk100 : nk Tryz.prog 100 = .fnc := by kernel_rfl
@[push_cast] theorem cc100 : Go.Abs.concrete Tryz.prog 100 = true := by kernel_rfl
@[push_cast] theorem isl100 : isSlc Tryz.prog 100 = false := by kernel_rfl
@[push_cast] theorem ist100 : isStr Tryz.prog 100 = false := by kernel_rfl
@[push_cast] theorem ik100 : ikd Tryz.prog 100 = none := by kernel_rfl
@[push_cast] theorem tk101 : tk Tryz.prog 101 = .scal := by kernel_rfl
@[push_cast] theorem zc101 : zc Tryz.prog 101 = some [.nilFunc] := by kernel_rfl
@[push_cast] theorem nk101 : nk Tryz.prog 101 = .fnc := by kernel_rfl
@[push_cast] theorem cc101 : Go.Abs.concrete Tryz.prog 101 = true := by kernel_rfl
@[push_cast] theorem isl101 : isSlc Tryz.prog 101 = false := by kernel_rfl
@[push_cast] theorem ist101 : isStr Tryz.prog 101 = false := by kernel_rfl
@[push_cast] theorem ik101 : ikd Tryz.prog 101 = none := by kernel_rfl
@[push_cast] theorem tk103 : tk Tryz.prog 103 = .scal := by kernel_rfl
@[push_cast] theorem zc103 : zc Tryz.prog 103 = some [.nilFunc] := by kernel_rfl
@[push_cast] theorem nk103 : nk Tryz.prog 103 = .fnc := by kernel_rfl
@[push_cast] theorem cc103 : Go.Abs.concrete Tryz.prog 103 = true := by kernel_rfl
@[push_cast] theorem isl103 : isSlc Tryz.prog 103 = false := by kernel_rfl
@[push_cast] theorem ist103 : isStr Tryz.prog 103 = false := by kernel_rfl
@[push_cast] theorem ik103 : ikd Tryz.prog 103 = none := by kernel_rfl
@[push_cast] theorem tk104 : tk Tryz.prog 104 = .scal := by kernel_rfl
@[push_cast] theorem zc104 : zc Tryz.prog 104 = some [.slice none 0 0] := by kernel_rfl
@[push_cast] theorem nk104 : nk Tryz.prog 104 = .slc := by kernel_rfl
@[push_cast] theorem cc104 : Go.Abs.concrete Tryz.prog 104 = true := by kernel_rfl
@[push_cast] theorem isl104 : isSlc Tryz.prog 104 = true := by kernel_rfl
@[push_cast] theorem ist104 : isStr Tryz.prog 104 = false := by kernel_rfl
@[push_cast] theorem ik104 : ikd Tryz.prog 104 = none := by kernel_rfl
@[push_cast] theorem es104 : elSz Tryz.prog 104 = some 7 := by kernel_rfl
@[push_cast] theorem eb104 : elB Tryz.prog 104 = 64 := by kernel_rfl
@[push_cast] theorem el104 : elT Tryz.prog 104 = some 69 := by kernel_rfl
@[push_cast] theorem by104 : isBys Tryz.prog 104 = false := by kernel_rfl
@[push_cast] theorem pl105 : places Tryz.prog 105 = some [(0, 7), (7, 7), (14, 7), (21, 7), (28, 7), (35, 7), (42, 7), (49, 7), (56, 7), (63, 7), (70, 7), (77, 7), (84, 7), (91, 7), (98, 7), (105, 7), (112, 7), (119, 7), (126, 7), (133, 7), (140, 7), (147, 7), (154, 7)] := by kernel_rfl
@[push_cast] theorem at105 : arrT Tryz.prog 105 = some (23, 69, 7) := by kernel_rfl
@[push_cast] theorem nk105 : nk Tryz.prog 105 = .other := by kernel_rfl
@[push_cast] theorem cc105 : Go.Abs.concrete Tryz.prog 105 = true := by kernel_rfl
@[push_cast] theorem isl105 : isSlc Tryz.prog 105 = false := by kernel_rfl
@[push_cast] theorem ist105 : isStr Tryz.prog 105 = false := by kernel_rfl
@[push_cast] theorem ik105 : ikd Tryz.prog 105 = none := by kernel_rfl
@[push_cast] theorem tk106 : tk Tryz.prog 106 = .scal := by kernel_rfl
@[push_cast] theorem zc106 : zc Tryz.prog 106 = some [.nilFunc] := by kernel_rfl
@[push_cast] theorem nk106 : nk Tryz.prog 106 = .fnc := by kernel_rfl
@[push_cast] theorem cc106 : Go.Abs.concrete Tryz.prog 106 = true := by kernel_rfl
@[push_cast] theorem isl106 : isSlc Tryz.prog 106 = false := by kernel_rfl
@[push_cast] theorem ist106 : isStr Tryz.prog 106 = false := by kernel_rfl
@[push_cast] theorem ik106 : ikd Tryz.prog 106 = none := by kernel_rfl
@[push_cast] theorem tk107 : tk Tryz.prog 107 = .aggr 3 := by kernel_rfl
@[push_cast] theorem zc107 : zc Tryz.prog 107 = some [.int .i64 0, .int .i64 0, .int .i64 0] := by kernel_rfl
@[push_cast] theorem pl107 : places Tryz.prog 107 = some [(0, 1), (1, 1), (2, 1)] := by kernel_rfl
@[push_cast] theorem at107 : arrT Tryz.prog 107 = some (3, 3, 1) := by kernel_rfl
@[push_cast] theorem nk107 : nk Tryz.prog 107 = .other := by kernel_rfl
@[push_cast] theorem cc107 : Go.Abs.concrete Tryz.prog 107 = true := by kernel_rfl
@[push_cast] theorem isl107 : isSlc Tryz.prog 107 = false := by kernel_rfl
@[push_cast] theorem ist107 : isStr Tryz.prog 107 = false := by kernel_rfl
@[push_cast] theorem ik107 : ikd Tryz.prog 107 = none := by kernel_rfl
@[push_cast] theorem tk108 : tk Tryz.prog 108 = .aggr 21 := by kernel_rfl
@[push_cast] theorem zc108 : zc Tryz.prog 108 = some [.int .i64 0, .int .i64 0, .int .i64 0, .int .i64 0, .int .i64 0, .int .i64 0, .int .i64 0, .int .i64 0, .int .i64 0, .int .i64 0, .int .i64 0, .int .i64 0, .int .i64 0, .int .i64 0, .int .i64 0, .int .i64 0, .int .i64 0, .int .i64 0, .int .i64 0, .int .i64 0, .int .i64 0] := by kernel_rfl
@[push_cast] theorem pl108 : places Tryz.prog 108 = some [(0, 3), (3, 3), (6, 3), (9, 3), (12, 3), (15, 3), (18, 3)] := by kernel_rfl
@[push_cast] theorem at108 : arrT Tryz.prog 108 = some (7, 107, 3) := by kernel_rfl
@[push_cast] theorem nk108 : nk Tryz.prog 108 = .other := by kernel_rfl
@[push_cast] theorem cc108 : Go.Abs.concrete Tryz.prog 108 = true := by kernel_rfl
@[push_cast] theorem isl108 : isSlc Tryz.prog 108 = false := by kernel_rfl
@[push_cast] theorem ist108 : isStr Tryz.prog 108 = false := by kernel_rfl
@[push_cast] theorem ik108 : ikd Tryz.prog 108 = none := by kernel_rfl
@[push_cast] theorem tk109 : tk Tryz.prog 109 = .scal := by kernel_rfl
@[push_cast] theorem zc109 : zc Tryz.prog 109 = some [.nilFunc] := by kernel_rfl
@[push_cast] theorem nk109 : nk Tryz.prog 109 = .fnc := by kernel_rfl
@[push_cast] theorem cc109 : Go.Abs.concrete Tryz.prog 109 = true := by kernel_rfl
@[push_cast] theorem isl109 : isSlc Tryz.prog 109 = false := by kernel_rfl
@[push_cast] theorem ist109 : isStr Tryz.prog 109 = false := by kernel_rfl
@[push_cast] theorem ik109 : ikd Tryz.prog 109 = none := by kernel_rfl
@[push_cast] theorem tk110 : tk Tryz.prog 110 = .scal := by kernel_rfl
@[push_cast] theorem zc110 : zc Tryz.prog 110 = some [.slice none 0 0] := by kernel_rfl
@[push_cast] theorem nk110 : nk Tryz.prog 110 = .slc := by kernel_rfl
@[push_cast] theorem cc110 : Go.Abs.concrete Tryz.prog 110 = true := by kernel_rfl
@[push_cast] theorem isl110 : isSlc Tryz.prog 110 = true := by kernel_rfl
@[push_cast] theorem ist110 : isStr Tryz.prog 110 = false := by kernel_rfl
@[push_cast] theorem ik110 : ikd Tryz.prog 110 = none := by kernel_rfl
@[push_cast] theorem es110 : elSz Tryz.prog 110 = some 7 := by kernel_rfl
@[push_cast] theorem eb110 : elB Tryz.prog 110 = 64 := by kernel_rfl
@[push_cast] theorem el110 : elT Tryz.prog 110 = some 77 := by kernel_rfl
@[push_cast] theorem by110 : isBys Tryz.prog 110 = false := by kernel_rfl
@[push_cast] theorem tk111 : tk Tryz.prog 111 = .scal := by kernel_rfl
@[push_cast] theorem zc111 : zc Tryz.prog 111 = some [.nilFunc] := by kernel_rfl
@[push_cast] theorem nk111 : nk Tryz.prog 111 = .fnc := by kernel_rfl
@[push_cast] theorem cc111 : Go.Abs.concrete Tryz.prog 111 = true := by kernel_rfl
@[push_cast] theorem isl111 : isSlc Tryz.prog 111 = false := by kernel_rfl
@[push_cast] theorem ist111 : isStr Tryz.prog 111 = false := by kernel_rfl
@[push_cast] theorem ik111 : ikd Tryz.prog 111 = none := by kernel_rfl
@[push_cast] theorem tk112 : tk Tryz.prog 112 = .scal := by kernel_rfl
@[push_cast] theorem zc112 : zc Tryz.prog 112 = some [.slice none 0 0] := by kernel_rfl
@[push_cast] theorem nk112 : nk Tryz.prog 112 = .slc := by kernel_rfl
@[push_cast] theorem cc112 : Go.Abs.concrete Tryz.prog 112 = true := by kernel_rfl
@[push_cast] theorem isl112 : isSlc Tryz.prog 112 = true := by kernel_rfl
@[push_cast] theorem ist112 : isStr Tryz.prog 112 = false := by kernel_rfl
@[push_cast] theorem ik112 : ikd Tryz.prog 112 = none := by kernel_rfl
@[push_cast] theorem es112 : elSz Tryz.prog 112 = some 7 := by kernel_rfl
@[push_cast] theorem eb112 : elB Tryz.prog 112 = 64 := by kernel_rfl
@[push_cast] theorem el112 : elT Tryz.prog 112 = some 83 := by kernel_rfl
@[push_cast] theorem by112 : isBys Tryz.prog 112 = false := by kernel_rfl
@[push_cast] theorem tk113 : tk Tryz.prog 113 = .scal := by kernel_rfl
@[push_cast] theorem zc113 : zc Tryz.prog 113 = some [.nilFunc] := by kernel_rfl
@[push_cast] theorem nk113 : nk Tryz.prog 113 = .fnc := by kernel_rfl
@[push_cast] theorem cc113 : Go.Abs.concrete Tryz.prog 113 = true := by kernel_rfl
@[push_cast] theorem isl113 : isSlc Tryz.prog 113 = false := by kernel_rfl
@[push_cast] theorem ist113 : isStr Tryz.prog 113 = false := by kernel_rfl
@[push_cast] theorem ik113 : ikd Tryz.prog 113 = none := by kernel_rfl
@[push_cast] theorem tk115 : tk Tryz.prog 115 = .scal := by kernel_rfl
@[push_cast] theorem zc115 : zc Tryz.prog 115 = some [.nilFunc] := by kernel_rfl
@[push_cast] theorem nk115 : nk Tryz.prog 115 = .fnc := by kernel_rfl
@[push_cast] theorem cc115 : Go.Abs.concrete Tryz.prog 115 = true := by kernel_rfl
@[push_cast] theorem isl115 : isSlc Tryz.prog 115 = false := by kernel_rfl
@[push_cast] theorem ist115 : isStr Tryz.prog 115 = false := by kernel_rfl
@[push_cast] theorem ik115 : ikd Tryz.prog 115 = none := by kernel_rfl
@[push_cast] theorem tk116 : tk Tryz.prog 116 = .scal := by kernel_rfl
@[push_cast] theorem zc116 : zc Tryz.prog 116 = some [.nilFunc] := by kernel_rfl
@[push_cast] theorem nk116 : nk Tryz.prog 116 = .fnc := by kernel_rfl
@[push_cast] theorem cc116 : Go.Abs.concrete Tryz.prog 116 = true := by kernel_rfl
@[push_cast] theorem isl116 : isSlc Tryz.prog 116 = false := by kernel_rfl
@[push_cast] theorem ist116 : isStr Tryz.prog 116 = false := by kernel_rfl
@[push_cast] theorem ik116 : ikd Tryz.prog 116 = none := by kernel_rfl
@[push_cast] theorem tk117 : tk Tryz.prog 117 = .scal := by kernel_rfl
@[push_cast] theorem zc117 : zc Tryz.prog 117 = some [.nilFunc] := by kernel_rfl
@[push_cast] theorem nk117 : nk Tryz.prog 117 = .fnc := by kernel_rfl
@[push_cast] theorem cc117 : Go.Abs.concrete Tryz.prog 117 = true := by kernel_rfl
@[push_cast] theorem isl117 : isSlc Tryz.prog 117 = false := by kernel_rfl
@[push_cast] theorem ist117 : isStr Tryz.prog 117 = false := by kernel_rfl
@[push_cast] theorem ik117 : ikd Tryz.prog 117 = none := by kernel_rfl
@[push_cast] theorem tk118 : tk Tryz.prog 118 = .scal := by kernel_rfl
@[push_cast] theorem zc118 : zc Tryz.prog 118 = some [.nilFunc] := by kernel_rfl
@[push_cast] theorem nk118 : nk Tryz.prog 118 = .fnc := by kernel_rfl
@[push_cast] theorem cc118 : Go.Abs.concrete Tryz.prog 118 = true := by kernel_rfl
@[push_cast] theorem isl118 : isSlc Tryz.prog 118 = false := by kernel_rfl
@[push_cast] theorem ist118 : isStr Tryz.prog 118 = false := by kernel_rfl
@[push_cast] theorem ik118 : ikd Tryz.prog 118 = none := by kernel_rfl
@[push_cast] theorem tk119 : tk Tryz.prog 119 = .scal := by kernel_rfl
@[push_cast] theorem zc119 : zc Tryz.prog 119 = some [.nilFunc] := by kernel_rfl
@[push_cast] theorem nk119 : nk Tryz.prog 119 = .fnc := by kernel_rfl
@[push_cast] theorem cc119 : Go.Abs.concrete Tryz.prog 119 = true := by kernel_rfl
@[push_cast] theorem isl119 : isSlc Tryz.prog 119 = false := by kernel_rfl
@[push_cast] theorem ist119 : isStr Tryz.prog 119 = false := by kernel_rfl
@[push_cast] theorem ik119 : ikd Tryz.prog 119 = none := by kernel_rfl
@[push_cast] theorem tk120 : tk Tryz.prog 120 = .scal := by kernel_rfl
@[push_cast] theorem zc120 : zc Tryz.prog 120 = some [.nilFunc] := by kernel_rfl
@[push_cast] theorem nk120 : nk Tryz.prog 120 = .fnc := by kernel_rfl
@[push_cast] theorem cc120 : Go.Abs.concrete Tryz.prog 120 = true := by kernel_rfl
@[push_cast] theorem isl120 : isSlc Tryz.prog 120 = false := by kernel_rfl
@[push_cast] theorem ist120 : isStr Tryz.prog 120 = false := by kernel_rfl
@[push_cast] theorem ik120 : ikd Tryz.prog 120 = none := by kernel_rfl
@[push_cast] theorem tk121 : tk Tryz.prog 121 = .scal := by kernel_rfl
@[push_cast] theorem zc121 : zc Tryz.prog 121 = some [.nilFunc] := by kernel_rfl
@[push_cast] theorem nk121 : nk Tryz.prog 121 = .fnc := by kernel_rfl
@[push_cast] theorem cc121 : Go.Abs.concrete Tryz.prog 121 = true := by kernel_rfl
@[push_cast] theorem isl121 : isSlc Tryz.prog 121 = false := by kernel_rfl
@[push_cast] theorem ist121 : isStr Tryz.prog 121 = false := by kernel_rfl
@[push_cast] theorem ik121 : ikd Tryz.prog 121 = none := by kernel_rfl
@[push_cast] theorem tk122 : tk Tryz.prog 122 = .scal := by kernel_rfl
@[push_cast] theorem zc122 : zc Tryz.prog 122 = some [.nilFunc] := by kernel_rfl
@[push_cast] theorem nk122 : nk Tryz.prog 122 = .fnc := by kernel_rfl
@[push_cast] theorem cc122 : Go.Abs.concrete Tryz.prog 122 = true := by kernel_rfl
@[push_cast] theorem isl122 : isSlc Tryz.prog 122 = false := by kernel_rfl
@[push_cast] theorem ist122 : isStr Tryz.prog 122 = false := by kernel_rfl
@[push_cast] theorem ik122 : ikd Tryz.prog 122 = none := by kernel_rfl
@[push_cast] theorem tk123 : tk Tryz.prog 123 = .scal := by kernel_rfl
@[push_cast] theorem zc123 : zc Tryz.prog 123 = some [.int .i64 0] := by kernel_rfl
@[push_cast] theorem nk123 : nk Tryz.prog 123 = .other := by kernel_rfl
@[push_cast] theorem cc123 : Go.Abs.concrete Tryz.prog 123 = true := by kernel_rfl
@[push_cast] theorem isl123 : isSlc Tryz.prog 123 = false := by kernel_rfl
@[push_cast] theorem ist123 : isStr Tryz.prog 123 = false := by kernel_rfl
@[push_cast] theorem ik123 : ikd Tryz.prog 123 = some .i64 := by kernel_rfl
@[push_cast] theorem tk125 : tk Tryz.prog 125 = .scal := by kernel_rfl
@[push_cast] theorem zc125 : zc Tryz.prog 125 = some [.nilFunc] := by kernel_rfl
@[push_cast] theorem nk125 : nk Tryz.prog 125 = .fnc := by kernel_rfl
@[push_cast] theorem cc125 : Go.Abs.concrete Tryz.prog 125 = true := by kernel_rfl
@[push_cast] theorem isl125 : isSlc Tryz.prog 125 = false := by kernel_rfl
@[push_cast] theorem ist125 : isStr Tryz.prog 125 = false := by kernel_rfl
@[push_cast] theorem ik125 : ikd Tryz.prog 125 = none := by kernel_rfl
@[push_cast] theorem tk126 : tk Tryz.prog 126 = .scal := by kernel_rfl
@[push_cast] theorem zc126 : zc Tryz.prog 126 = some [.nilFunc] := by kernel_rfl
@[push_cast] theorem nk126 : nk Tryz.prog 126 = .fnc := by kernel_rfl
@[push_cast] theorem cc126 : Go.Abs.concrete Tryz.prog 126 = true := by kernel_rfl
@[push_cast] theorem isl126 : isSlc Tryz.prog 126 = false := by kernel_rfl
@[push_cast] theorem ist126 : isStr Tryz.prog 126 = false := by kernel_rfl
@[push_cast] theorem ik126 : ikd Tryz.prog 126 = none := by kernel_rfl
@[push_cast] theorem tk128 : tk Tryz.prog 128 = .scal := by kernel_rfl
@[push_cast] theorem zc128 : zc Tryz.prog 128 = some [.nilFunc] := by kernel_rfl
@[push_cast] theorem nk128 : nk Tryz.prog 128 = .fnc := by kernel_rfl
@[push_cast] theorem cc128 : Go.Abs.concrete Tryz.prog 128 = true := by kernel_rfl
@[push_cast] theorem isl128 : isSlc Tryz.prog 128 = false := by kernel_rfl
@[push_cast] theorem ist128 : isStr Tryz.prog 128 = false := by kernel_rfl
@[push_cast] theorem ik128 : ikd Tryz.prog 128 = none := by kernel_rfl
@[push_cast] theorem tk129 : tk Tryz.prog 129 = .scal := by kernel_rfl
@[push_cast] theorem zc129 : zc Tryz.prog 129 = some [.slice none 0 0] := by kernel_rfl
@[push_cast] theorem nk129 : nk Tryz.prog 129 = .slc := by kernel_rfl
@[push_cast] theorem cc129 : Go.Abs.concrete Tryz.prog 129 = true := by kernel_rfl
@[push_cast] theorem isl129 : isSlc Tryz.prog 129 = true := by kernel_rfl
@[push_cast] theorem ist129 : isStr Tryz.prog 129 = false := by kernel_rfl
@[push_cast] theorem ik129 : ikd Tryz.prog 129 = none := by kernel_rfl
@[push_cast] theorem es129 : elSz Tryz.prog 129 = some 2 := by kernel_rfl
@[push_cast] theorem eb129 : elB Tryz.prog 129 = 32 := by kernel_rfl
@[push_cast] theorem el129 : elT Tryz.prog 129 = some 152 := by kernel_rfl
@[push_cast] theorem by129 : isBys Tryz.prog 129 = false := by kernel_rfl
@[push_cast] theorem tk130 : tk Tryz.prog 130 = .scal := by kernel_rfl
@[push_cast] theorem zc130 : zc Tryz.prog 130 = some [.nilFunc] := by kernel_rfl
@[push_cast] theorem nk130 : nk Tryz.prog 130 = .fnc := by kernel_rfl
@[push_cast] theorem cc130 : Go.Abs.concrete Tryz.prog 130 = true := by kernel_rfl
@[push_cast] theorem isl130 : isSlc Tryz.prog 130 = false := by kernel_rfl
@[push_cast] theorem ist130 : isStr Tryz.prog 130 = false := by kernel_rfl
@[push_cast] theorem ik130 : ikd Tryz.prog 130 = none := by kernel_rfl
@[push_cast] theorem tk131 : tk Tryz.prog 131 = .scal := by kernel_rfl
@[push_cast] theorem zc131 : zc Tryz.prog 131 = some [.slice none 0 0] := by kernel_rfl
@[push_cast] theorem nk131 : nk Tryz.prog 131 = .slc := by kernel_rfl
@[push_cast] theorem cc131 : Go.Abs.concrete Tryz.prog 131 = true := by kernel_rfl
@[push_cast] theorem isl131 : isSlc Tryz.prog 131 = true := by kernel_rfl
@[push_cast] theorem ist131 : isStr Tryz.prog 131 = false := by kernel_rfl
@[push_cast] theorem ik131 : ikd Tryz.prog 131 = none := by kernel_rfl
@[push_cast] theorem es131 : elSz Tryz.prog 131 = some 1 := by kernel_rfl
@[push_cast] theorem eb131 : elB Tryz.prog 131 = 24 := by kernel_rfl
@[push_cast] theorem el131 : elT Tryz.prog 131 = some 40 := by kernel_rfl
@[push_cast] theorem by131 : isBys Tryz.prog 131 = false := by kernel_rfl
@[push_cast] theorem tk132 : tk Tryz.prog 132 = .scal := by kernel_rfl
@[push_cast] theorem zc132 : zc Tryz.prog 132 = some [.slice none 0 0] := by kernel_rfl
@[push_cast] theorem nk132 : nk Tryz.prog 132 = .slc := by kernel_rfl
@[push_cast] theorem cc132 : Go.Abs.concrete Tryz.prog 132 = true := by kernel_rfl
@[push_cast] theorem isl132 : isSlc Tryz.prog 132 = true := by kernel_rfl
@[push_cast] theorem ist132 : isStr Tryz.prog 132 = false := by kernel_rfl
@[push_cast] theorem ik132 : ikd Tryz.prog 132 = none := by kernel_rfl
@[push_cast] theorem es132 : elSz Tryz.prog 132 = some 1 := by kernel_rfl
@[push_cast] theorem eb132 : elB Tryz.prog 132 = 4 := by kernel_rfl
@[push_cast] theorem el132 : elT Tryz.prog 132 = some 23 := by kernel_rfl
@[push_cast] theorem by132 : isBys Tryz.prog 132 = false := by kernel_rfl
@[push_cast] theorem tk133 : tk Tryz.prog 133 = .scal := by kernel_rfl
@[push_cast] theorem zc133 : zc Tryz.prog 133 = some [.nilFunc] := by kernel_rfl
@[push_cast] theorem nk133 : nk Tryz.prog 133 = .fnc := by kernel_rfl
@[push_cast] theorem cc133 : Go.Abs.concrete Tryz.prog 133 = true := by kernel_rfl
@[push_cast] theorem isl133 : isSlc Tryz.prog 133 = false := by kernel_rfl
@[push_cast] theorem ist133 : isStr Tryz.prog 133 = false := by kernel_rfl
@[push_cast] theorem ik133 : ikd Tryz.prog 133 = none := by kernel_rfl
@[push_cast] theorem tk134 : tk Tryz.prog 134 = .scal := by kernel_rfl
@[push_cast] theorem zc134 : zc Tryz.prog 134 = some [.nilFunc] := by kernel_rfl
@[push_cast] theorem nk134 : nk Tryz.prog 134 = .fnc := by kernel_rfl
@[push_cast] theorem cc134 : Go.Abs.concrete Tryz.prog 134 = true := by kernel_rfl
@[push_cast] theorem isl134 : isSlc Tryz.prog 134 = false := by kernel_rfl
@[push_cast] theorem ist134 : isStr Tryz.prog 134 = false := by kernel_rfl
@[push_cast] theorem ik134 : ikd Tryz.prog 134 = none := by kernel_rfl
@[push_cast] theorem tk135 : tk Tryz.prog 135 = .aggr 7 := by kernel_rfl
@[push_cast] theorem zc135 : zc Tryz.prog 135 = some [.int .i64 0, .int .u16 0, .string ⟨#[]⟩, .int .i64 0, .int .i64 0, .int .i64 0, .int .i64 0] := by kernel_rfl
@[push_cast] theorem fld135_0 : fld Tryz.prog 135 0 = some (0, .scal) := by kernel_rfl
@[push_cast] theorem fld135_1 : fld Tryz.prog 135 1 = some (1, .scal) := by kernel_rfl
@[push_cast] theorem fld135_2 : fld Tryz.prog 135 2 = some (2, .scal) := by kernel_rfl
@[push_cast] theorem fld135_3 : fld Tryz.prog 135 3 = some (3, .scal) := by kernel_rfl
@[push_cast] theorem fld135_4 : fld Tryz.prog 135 4 = some (4, .scal) := by kernel_rfl
@[push_cast] theorem fld135_5 : fld Tryz.prog 135 5 = some (5, .scal) := by kernel_rfl
@[push_cast] theorem fld135_6 : fld Tryz.prog 135 6 = some (6, .scal) := by kernel_rfl
@[push_cast] theorem pl135 : places Tryz.prog 135 = some [(0, 1), (1, 1), (2, 1), (3, 1), (4, 1), (5, 1), (6, 1)] := by kernel_rfl
@[push_cast] theorem nk135 : nk Tryz.prog 135 = .other := by kernel_rfl
@[push_cast] theorem cc135 : Go.Abs.concrete Tryz.prog 135 = true := by kernel_rfl
@[push_cast] theorem isl135 : isSlc Tryz.prog 135 = false := by kernel_rfl
@[push_cast] theorem ist135 : isStr Tryz.prog 135 = false := by kernel_rfl
@[push_cast] theorem ik135 : ikd Tryz.prog 135 = none := by kernel_rfl
@[push_cast] theorem tk137 : tk Tryz.prog 137 = .scal := by kernel_rfl
@[push_cast] theorem zc137 : zc Tryz.prog 137 = some [.nilFunc] := by kernel_rfl
@[push_cast] theorem nk137 : nk Tryz.prog 137 = .fnc := by kernel_rfl
@[push_cast] theorem cc137 : Go.Abs.concrete Tryz.prog 137 = true := by kernel_rfl
@[push_cast] theorem isl137 : isSlc Tryz.prog 137 = false := by kernel_rfl
@[push_cast] theorem ist137 : isStr Tryz.prog 137 = false := by kernel_rfl
@[push_cast] theorem ik137 : ikd Tryz.prog 137 = none := by kernel_rfl
@[push_cast] theorem tk138 : tk Tryz.prog 138 = .scal := by kernel_rfl
@[push_cast] theorem zc138 : zc Tryz.prog 138 = some [.nilFunc] := by kernel_rfl
@[push_cast] theorem nk138 : nk Tryz.prog 138 = .fnc := by kernel_rfl
@[push_cast] theorem cc138 : Go.Abs.concrete Tryz.prog 138 = true := by kernel_rfl
@[push_cast] theorem isl138 : isSlc Tryz.prog 138 = false := by kernel_rfl
@[push_cast] theorem ist138 : isStr Tryz.prog 138 = false := by kernel_rfl
@[push_cast] theorem ik138 : ikd Tryz.prog 138 = none := by kernel_rfl
@[push_cast] theorem tk139 : tk Tryz.prog 139 = .scal := by kernel_rfl
@[push_cast] theorem zc139 : zc Tryz.prog 139 = some [.nilFunc] := by kernel_rfl
@[push_cast] theorem nk139 : nk Tryz.prog 139 = .fnc := by kernel_rfl
@[push_cast] theorem cc139 : Go.Abs.concrete Tryz.prog 139 = true := by kernel_rfl
@[push_cast] theorem isl139 : isSlc Tryz.prog 139 = false := by kernel_rfl
@[push_cast] theorem ist139 : isStr Tryz.prog 139 = false := by kernel_rfl
@[push_cast] theorem ik139 : ikd Tryz.prog 139 = none := by kernel_rfl
@[push_cast] theorem tk140 : tk Tryz.prog 140 = .scal := by kernel_rfl
@[push_cast] theorem zc140 : zc Tryz.prog 140 = some [.slice none 0 0] := by kernel_rfl
@[push_cast] theorem nk140 : nk Tryz.prog 140 = .slc := by kernel_rfl
@[push_cast] theorem cc140 : Go.Abs.concrete Tryz.prog 140 = true := by kernel_rfl
@[push_cast] theorem isl140 : isSlc Tryz.prog 140 = true := by kernel_rfl
@[push_cast] theorem ist140 : isStr Tryz.prog 140 = false := by kernel_rfl
@[push_cast] theorem ik140 : ikd Tryz.prog 140 = none := by kernel_rfl
@[push_cast] theorem es140 : elSz Tryz.prog 140 = some 1 := by kernel_rfl
@[push_cast] theorem eb140 : elB Tryz.prog 140 = 8 := by kernel_rfl
@[push_cast] theorem el140 : elT Tryz.prog 140 = some 141 := by kernel_rfl
@[push_cast] theorem by140 : isBys Tryz.prog 140 = false := by kernel_rfl
@[push_cast] theorem tk141 : tk Tryz.prog 141 = .scal := by kernel_rfl
@[push_cast] theorem zc141 : zc Tryz.prog 141 = some [.nilFunc] := by kernel_rfl
@[push_cast] theorem nk141 : nk Tryz.prog 141 = .fnc := by kernel_rfl
@[push_cast] theorem cc141 : Go.Abs.concrete Tryz.prog 141 = true := by kernel_rfl
@[push_cast] theorem isl141 : isSlc Tryz.prog 141 = false := by kernel_rfl
@[push_cast] theorem ist141 : isStr Tryz.prog 141 = false := by kernel_rfl
@[push_cast] theorem ik141 : ikd Tryz.prog 141 = none := by kernel_rfl
@[push_cast] theorem tk142 : tk Tryz.prog 142 = .scal := by kernel_rfl
@[push_cast] theorem zc142 : zc Tryz.prog 142 = some [.nilFunc] := by kernel_rfl
@[push_cast] theorem nk142 : nk Tryz.prog 142 = .fnc := by kernel_rfl
@[push_cast] theorem cc142 : Go.Abs.concrete Tryz.prog 142 = true := by kernel_rfl
@[push_cast] theorem isl142 : isSlc Tryz.prog 142 = false := by kernel_rfl
@[push_cast] theorem ist142 : isStr Tryz.prog 142 = false := by kernel_rfl
@[push_cast] theorem ik142 : ikd Tryz.prog 142 = none := by kernel_rfl
@[push_cast] theorem tk143 : tk Tryz.prog 143 = .scal := by kernel_rfl
@[push_cast] theorem zc143 : zc Tryz.prog 143 = some [.nilFunc] := by kernel_rfl
@[push_cast] theorem nk143 : nk Tryz.prog 143 = .fnc := by kernel_rfl
@[push_cast] theorem cc143 : Go.Abs.concrete Tryz.prog 143 = true := by kernel_rfl
@[push_cast] theorem isl143 : isSlc Tryz.prog 143 = false := by kernel_rfl
@[push_cast] theorem ist143 : isStr Tryz.prog 143 = false := by kernel_rfl
@[push_cast] theorem ik143 : ikd Tryz.prog 143 = none := by kernel_rfl
@[push_cast] theorem tk144 : tk Tryz.prog 144 = .scal := by kernel_rfl
@[push_cast] theorem zc144 : zc Tryz.prog 144 = some [.slice none 0 0] := by kernel_rfl
@[push_cast] theorem nk144 : nk Tryz.prog 144 = .slc := by kernel_rfl
@[push_cast] theorem cc144 : Go.Abs.concrete Tryz.prog 144 = true := by kernel_rfl
@[push_cast] theorem isl144 : isSlc Tryz.prog 144 = true := by kernel_rfl
@[push_cast] theorem ist144 : isStr Tryz.prog 144 = false := by kernel_rfl
@[push_cast] theorem ik144 : ikd Tryz.prog 144 = none := by kernel_rfl
@[push_cast] theorem es144 : elSz Tryz.prog 144 = some 1 := by kernel_rfl
@[push_cast] theorem eb144 : elB Tryz.prog 144 = 2 := by kernel_rfl
@[push_cast] theorem el144 : elT Tryz.prog 144 = some 22 := by kernel_rfl
@[push_cast] theorem by144 : isBys Tryz.prog 144 = false := by kernel_rfl
@[push_cast] theorem tk145 : tk Tryz.prog 145 = .scal := by kernel_rfl
@[push_cast] theorem zc145 : zc Tryz.prog 145 = some [.nilFunc] := by kernel_rfl
@[push_cast] theorem nk145 : nk Tryz.prog 145 = .fnc := by kernel_rfl
@[push_cast] theorem cc145 : Go.Abs.concrete Tryz.prog 145 = true := by kernel_rfl
@[push_cast] theorem isl145 : isSlc Tryz.prog 145 = false := by kernel_rfl
@[push_cast] theorem ist145 : isStr Tryz.prog 145 = false := by kernel_rfl
@[push_cast] theorem ik145 : ikd Tryz.prog 145 = none := by kernel_rfl
@[push_cast] theorem tk146 : tk Tryz.prog 146 = .scal := by kernel_rfl
@[push_cast] theorem zc146 : zc Tryz.prog 146 = some [.nilFunc] := by kernel_rfl
@[push_cast] theorem nk146 : nk Tryz.prog 146 = .fnc := by kernel_rfl
@[push_cast] theorem cc146 : Go.Abs.concrete Tryz.prog 146 = true := by kernel_rfl
@[push_cast] theorem isl146 : isSlc Tryz.prog 146 = false := by kernel_rfl
@[push_cast] theorem ist146 : isStr Tryz.prog 146 = false := by kernel_rfl
@[push_cast] theorem ik146 : ikd Tryz.prog 146 = none := by kernel_rfl
@[push_cast] theorem tk147 : tk Tryz.prog 147 = .scal := by kernel_rfl
@[push_cast] theorem zc147 : zc Tryz.prog 147 = some [.nilFunc] := by kernel_rfl
@[push_cast] theorem nk147 : nk Tryz.prog 147 = .fnc := by kernel_rfl
@[push_cast] theorem cc147 : Go.Abs.concrete Tryz.prog 147 = true := by kernel_rfl
@[push_cast] theorem isl147 : isSlc Tryz.prog 147 = false := by kernel_rfl
@[push_cast] theorem ist147 : isStr Tryz.prog 147 = false := by kernel_rfl
@[push_cast] theorem ik147 : ikd Tryz.prog 147 = none := by kernel_rfl
@[push_cast] theorem tk148 : tk Tryz.prog 148 = .scal := by kernel_rfl
@[push_cast] theorem zc148 : zc Tryz.prog 148 = some [.nilFunc] := by kernel_rfl
@[push_cast] theorem nk148 : nk Tryz.prog 148 = .fnc := by kernel_rfl
@[push_cast] theorem cc148 : Go.Abs.concrete Tryz.prog 148 = true := by kernel_rfl
@[push_cast] theorem isl148 : isSlc Tryz.prog 148 = false := by kernel_rfl
@[push_cast] theorem ist148 : isStr Tryz.prog 148 = false := by kernel_rfl
@[push_cast] theorem ik148 : ikd Tryz.prog 148 = none := by kernel_rfl
@[push_cast] theorem tk149 : tk Tryz.prog 149 = .scal := by kernel_rfl
@[push_cast] theorem zc149 : zc Tryz.prog 149 = some [.pointer none] := by kernel_rfl
@[push_cast] theorem nk149 : nk Tryz.prog 149 = .ptr := by kernel_rfl
@[push_cast] theorem cc149 : Go.Abs.concrete Tryz.prog 149 = true := by kernel_rfl
@[push_cast] theorem isl149 : isSlc Tryz.prog 149 = false := by kernel_rfl
@[push_cast] theorem ist149 : isStr Tryz.prog 149 = false := by kernel_rfl
@[push_cast] theorem ik149 : ikd Tryz.prog 149 = none := by kernel_rfl
@[push_cast] theorem tk150 : tk Tryz.prog 150 = .scal := by kernel_rfl
@[push_cast] theorem zc150 : zc Tryz.prog 150 = some [.nilFunc] := by kernel_rfl
@[push_cast] theorem nk150 : nk Tryz.prog 150 = .fnc := by kernel_rfl
@[push_cast] theorem cc150 : Go.Abs.concrete Tryz.prog 150 = true := by kernel_rfl
@[push_cast] theorem isl150 : isSlc Tryz.prog 150 = false := by kernel_rfl
@[push_cast] theorem ist150 : isStr Tryz.prog 150 = false := by kernel_rfl
@[push_cast] theorem ik150 : ikd Tryz.prog 150 = none := by kernel_rfl
@[push_cast] theorem tk151 : tk Tryz.prog 151 = .aggr 2 := by kernel_rfl
@[push_cast] theorem zc151 : zc Tryz.prog 151 = some [.int .u16 0, .slice none 0 0] := by kernel_rfl
@[push_cast] theorem fld151_0 : fld Tryz.prog 151 0 = some (0, .scal) := by kernel_rfl
@[push_cast] theorem fld151_1 : fld Tryz.prog 151 1 = some (1, .scal) := by kernel_rfl
@[push_cast] theorem pl151 : places Tryz.prog 151 = some [(0, 1), (1, 1)] := by kernel_rfl
@[push_cast] theorem nk151 : nk Tryz.prog 151 = .other := by kernel_rfl
@[push_cast] theorem cc151 : Go.Abs.concrete Tryz.prog 151 = true := by kernel_rfl
@[push_cast] theorem isl151 : isSlc Tryz.prog 151 = false := by kernel_rfl
@[push_cast] theorem ist151 : isStr Tryz.prog 151 = false := by kernel_rfl
@[push_cast] theorem ik151 : ikd Tryz.prog 151 = none := by kernel_rfl
@[push_cast] theorem tk152 : tk Tryz.prog 152 = .aggr 2 := by kernel_rfl
@[push_cast] theorem zc152 : zc Tryz.prog 152 = some [.int .u16 0, .slice none 0 0] := by kernel_rfl
@[push_cast] theorem fld152_0 : fld Tryz.prog 152 0 = some (0, .scal) := by kernel_rfl
@[push_cast] theorem fld152_1 : fld Tryz.prog 152 1 = some (1, .scal) := by kernel_rfl
@[push_cast] theorem pl152 : places Tryz.prog 152 = some [(0, 1), (1, 1)] := by kernel_rfl
@[push_cast] theorem nk152 : nk Tryz.prog 152 = .other := by kernel_rfl
@[push_cast] theorem cc152 : Go.Abs.concrete Tryz.prog 152 = true := by kernel_rfl
@[push_cast] theorem isl152 : isSlc Tryz.prog 152 = false := by kernel_rfl
@[push_cast] theorem ist152 : isStr Tryz.prog 152 = false := by kernel_rfl
@[push_cast] theorem ik152 : ikd Tryz.prog 152 = none := by kernel_rfl
@[push_cast] theorem tk153 : tk Tryz.prog 153 = .scal := by kernel_rfl
@[push_cast] theorem zc153 : zc Tryz.prog 153 = some [.nilFunc] := by kernel_rfl
@[push_cast] theorem nk153 : nk Tryz.prog 153 = .fnc := by kernel_rfl
@[push_cast] theorem cc153 : Go.Abs.concrete Tryz.prog 153 = true := by kernel_rfl
@[push_cast] theorem isl153 : isSlc Tryz.prog 153 = false := by kernel_rfl
@[push_cast] theorem ist153 : isStr Tryz.prog 153 = false := by kernel_rfl
@[push_cast] theorem ik153 : ikd Tryz.prog 153 = none := by kernel_rfl
@[push_cast] theorem tk154 : tk Tryz.prog 154 = .scal := by kernel_rfl
@[push_cast] theorem zc154 : zc Tryz.prog 154 = some [.nilFunc] := by kernel_rfl
@[push_cast] theorem nk154 : nk Tryz.prog 154 = .fnc := by kernel_rfl
@[push_cast] theorem cc154 : Go.Abs.concrete Tryz.prog 154 = true := by kernel_rfl
@[push_cast] theorem isl154 : isSlc Tryz.prog 154 = false := by kernel_rfl
@[push_cast] theorem ist154 : isStr Tryz.prog 154 = false := by kernel_rfl
@[push_cast] theorem ik154 : ikd Tryz.prog 154 = none := by kernel_rfl
@[push_cast] theorem tk155 : tk Tryz.prog 155 = .scal := by kernel_rfl
@[push_cast] theorem zc155 : zc Tryz.prog 155 = some [.nilFunc] := by kernel_rfl
@[push_cast] theorem nk155 : nk Tryz.prog 155 = .fnc := by kernel_rfl
@[push_cast] theorem cc155 : Go.Abs.concrete Tryz.prog 155 = true := by kernel_rfl
@[push_cast] theorem isl155 : isSlc Tryz.prog 155 = false := by kernel_rfl
@[push_cast] theorem ist155 : isStr Tryz.prog 155 = false := by kernel_rfl
@[push_cast] theorem ik155 : ikd Tryz.prog 155 = none := by kernel_rfl
@[push_cast] theorem tk156 : tk Tryz.prog 156 = .scal := by kernel_rfl
@[push_cast] theorem zc156 : zc Tryz.prog 156 = some [.map none] := by kernel_rfl
@[push_cast] theorem mk156 : mpKey Tryz.prog 156 = some (.u16, 135) := by kernel_rfl
@[push_cast] theorem mz156 : mpZero Tryz.prog 135 = some (.agg #[.int .i64 0, .int .u16 0, .string ⟨#[]⟩, .int .i64 0, .int .i64 0, .int .i64 0, .int .i64 0]) := by kernel_rfl
@[push_cast] theorem nk156 : nk Tryz.prog 156 = .other := by kernel_rfl
@[push_cast] theorem cc156 : Go.Abs.concrete Tryz.prog 156 = true := by kernel_rfl
@[push_cast] theorem isl156 : isSlc Tryz.prog 156 = false := by kernel_rfl
@[push_cast] theorem ist156 : isStr Tryz.prog 156 = false := by kernel_rfl
@[push_cast] theorem ik156 : ikd Tryz.prog 156 = none := by kernel_rfl
@[push_cast] theorem tk157 : tk Tryz.prog 157 = .scal := by kernel_rfl
@[push_cast] theorem zc157 : zc Tryz.prog 157 = some [.nilFunc] := by kernel_rfl
@[push_cast] theorem nk157 : nk Tryz.prog 157 = .fnc := by kernel_rfl
@[push_cast] theorem cc157 : Go.Abs.concrete Tryz.prog 157 = true := by kernel_rfl
@[push_cast] theorem isl157 : isSlc Tryz.prog 157 = false := by kernel_rfl
@[push_cast] theorem ist157 : isStr Tryz.prog 157 = false := by kernel_rfl
@[push_cast] theorem ik157 : ikd Tryz.prog 157 = none := by kernel_rfl
@[push_cast] theorem tk158 : tk Tryz.prog 158 = .aggr 2 := by kernel_rfl
@[push_cast] theorem zc158 : zc Tryz.prog 158 = some [.int .i64 0, .int .i64 0] := by kernel_rfl
@[push_cast] theorem fld158_0 : fld Tryz.prog 158 0 = some (0, .scal) := by kernel_rfl
@[push_cast] theorem fld158_1 : fld Tryz.prog 158 1 = some (1, .scal) := by kernel_rfl
@[push_cast] theorem pl158 : places Tryz.prog 158 = some [(0, 1), (1, 1)] := by kernel_rfl
@[push_cast] theorem nk158 : nk Tryz.prog 158 = .other := by kernel_rfl
@[push_cast] theorem cc158 : Go.Abs.concrete Tryz.prog 158 = true := by kernel_rfl
@[push_cast] theorem isl158 : isSlc Tryz.prog 158 = false := by kernel_rfl
@[push_cast] theorem ist158 : isStr Tryz.prog 158 = false := by kernel_rfl
@[push_cast] theorem ik158 : ikd Tryz.prog 158 = none := by kernel_rfl
@[push_cast] theorem tk159 : tk Tryz.prog 159 = .aggr 2 := by kernel_rfl
@[push_cast] theorem zc159 : zc Tryz.prog 159 = some [.int .i64 0, .int .i64 0] := by kernel_rfl
@[push_cast] theorem fld159_0 : fld Tryz.prog 159 0 = some (0, .scal) := by kernel_rfl
@[push_cast] theorem fld159_1 : fld Tryz.prog 159 1 = some (1, .scal) := by kernel_rfl
@[push_cast] theorem pl159 : places Tryz.prog 159 = some [(0, 1), (1, 1)] := by kernel_rfl
@[push_cast] theorem nk159 : nk Tryz.prog 159 = .other := by kernel_rfl
@[push_cast] theorem cc159 : Go.Abs.concrete Tryz.prog 159 = true := by kernel_rfl
@[push_cast] theorem isl159 : isSlc Tryz.prog 159 = false := by kernel_rfl
@[push_cast] theorem ist159 : isStr Tryz.prog 159 = false := by kernel_rfl
@[push_cast] theorem ik159 : ikd Tryz.prog 159 = none := by kernel_rfl
@[push_cast] theorem tk160 : tk Tryz.prog 160 = .scal := by kernel_rfl
@[push_cast] theorem zc160 : zc Tryz.prog 160 = some [.nilFunc] := by kernel_rfl
@[push_cast] theorem nk160 : nk Tryz.prog 160 = .fnc := by kernel_rfl
@[push_cast] theorem cc160 : Go.Abs.concrete Tryz.prog 160 = true := by kernel_rfl
@[push_cast] theorem isl160 : isSlc Tryz.prog 160 = false := by kernel_rfl
@[push_cast] theorem ist160 : isStr Tryz.prog 160 = false := by kernel_rfl
@[push_cast] theorem ik160 : ikd Tryz.prog 160 = none := by kernel_rfl
@[push_cast] theorem tk161 : tk Tryz.prog 161 = .scal := by kernel_rfl
@[push_cast] theorem zc161 : zc Tryz.prog 161 = some [.nilFunc] := by kernel_rfl
@[push_cast] theorem nk161 : nk Tryz.prog 161 = .fnc := by kernel_rfl
@[push_cast] theorem cc161 : Go.Abs.concrete Tryz.prog 161 = true := by kernel_rfl
@[push_cast] theorem isl161 : isSlc Tryz.prog 161 = false := by kernel_rfl
@[push_cast] theorem ist161 : isStr Tryz.prog 161 = false := by kernel_rfl
@[push_cast] theorem ik161 : ikd Tryz.prog 161 = none := by kernel_rfl
@[push_cast] theorem tk162 : tk Tryz.prog 162 = .scal := by kernel_rfl
@[push_cast] theorem zc162 : zc Tryz.prog 162 = some [.nilFunc] := by kernel_rfl
@[push_cast] theorem nk162 : nk Tryz.prog 162 = .fnc := by kernel_rfl
@[push_cast] theorem cc162 : Go.Abs.concrete Tryz.prog 162 = true := by kernel_rfl
@[push_cast] theorem isl162 : isSlc Tryz.prog 162 = false := by kernel_rfl
@[push_cast] theorem ist162 : isStr Tryz.prog 162 = false := by kernel_rfl
@[push_cast] theorem ik162 : ikd Tryz.prog 162 = none := by kernel_rfl
@[push_cast] theorem tk163 : tk Tryz.prog 163 = .scal := by kernel_rfl
@[push_cast] theorem zc163 : zc Tryz.prog 163 = some [.nilFunc] := by kernel_rfl
@[push_cast] theorem nk163 : nk Tryz.prog 163 = .fnc := by kernel_rfl
@[push_cast] theorem cc163 : Go.Abs.concrete Tryz.prog 163 = true := by kernel_rfl
@[push_cast] theorem isl163 : isSlc Tryz.prog 163 = false := by kernel_rfl
@[push_cast] theorem ist163 : isStr Tryz.prog 163 = false := by kernel_rfl
@[push_cast] theorem ik163 : ikd Tryz.prog 163 = none := by kernel_rfl
@[push_cast] theorem tk164 : tk Tryz.prog 164 = .scal := by kernel_rfl
@[push_cast] theorem zc164 : zc Tryz.prog 164 = some [.nilFunc] := by kernel_rfl
@[push_cast] theorem nk164 : nk Tryz.prog 164 = .fnc := by kernel_rfl
@[push_cast] theorem cc164 : Go.Abs.concrete Tryz.prog 164 = true := by kernel_rfl
@[push_cast] theorem isl164 : isSlc Tryz.prog 164 = false := by kernel_rfl
@[push_cast] theorem ist164 : isStr Tryz.prog 164 = false := by kernel_rfl
@[push_cast] theorem ik164 : ikd Tryz.prog 164 = none := by kernel_rfl
@[push_cast] theorem tk165 : tk Tryz.prog 165 = .scal := by kernel_rfl
@[push_cast] theorem zc165 : zc Tryz.prog 165 = some [.pointer none] := by kernel_rfl
@[push_cast] theorem nk165 : nk Tryz.prog 165 = .other := by kernel_rfl
@[push_cast] theorem cc165 : Go.Abs.concrete Tryz.prog 165 = true := by kernel_rfl
@[push_cast] theorem isl165 : isSlc Tryz.prog 165 = false := by kernel_rfl
@[push_cast] theorem ist165 : isStr Tryz.prog 165 = false := by kernel_rfl
@[push_cast] theorem ik165 : ikd Tryz.prog 165 = none := by kernel_rfl
@[push_cast] theorem tk166 : tk Tryz.prog 166 = .scal := by kernel_rfl
@[push_cast] theorem zc166 : zc Tryz.prog 166 = some [.int .u64 0] := by kernel_rfl
@[push_cast] theorem nk166 : nk Tryz.prog 166 = .other := by kernel_rfl
@[push_cast] theorem cc166 : Go.Abs.concrete Tryz.prog 166 = true := by kernel_rfl
@[push_cast] theorem isl166 : isSlc Tryz.prog 166 = false := by kernel_rfl
@[push_cast] theorem ist166 : isStr Tryz.prog 166 = false := by kernel_rfl
@[push_cast] theorem ik166 : ikd Tryz.prog 166 = some .u64 := by kernel_rfl
@[push_cast] theorem tk167 : tk Tryz.prog 167 = .aggr 3 := by kernel_rfl
@[push_cast] theorem zc167 : zc Tryz.prog 167 = some [.pointer none, .pointer none, .int .u64 0] := by kernel_rfl
@[push_cast] theorem fld167_0 : fld Tryz.prog 167 0 = some (0, .scal) := by kernel_rfl
@[push_cast] theorem fld167_1 : fld Tryz.prog 167 1 = some (1, .scal) := by kernel_rfl
@[push_cast] theorem fld167_2 : fld Tryz.prog 167 2 = some (2, .scal) := by kernel_rfl
@[push_cast] theorem pl167 : places Tryz.prog 167 = some [(0, 1), (1, 1), (2, 1)] := by kernel_rfl
@[push_cast] theorem nk167 : nk Tryz.prog 167 = .other := by kernel_rfl
@[push_cast] theorem cc167 : Go.Abs.concrete Tryz.prog 167 = true := by kernel_rfl
@[push_cast] theorem isl167 : isSlc Tryz.prog 167 = false := by kernel_rfl
@[push_cast] theorem ist167 : isStr Tryz.prog 167 = false := by kernel_rfl
@[push_cast] theorem ik167 : ikd Tryz.prog 167 = none := by kernel_rfl
@[push_cast] theorem tk168 : tk Tryz.prog 168 = .aggr 3 := by kernel_rfl
@[push_cast] theorem zc168 : zc Tryz.prog 168 = some [.pointer none, .pointer none, .int .u64 0] := by kernel_rfl
@[push_cast] theorem fld168_0 : fld Tryz.prog 168 0 = some (0, .scal) := by kernel_rfl
@[push_cast] theorem fld168_1 : fld Tryz.prog 168 1 = some (1, .scal) := by kernel_rfl
@[push_cast] theorem fld168_2 : fld Tryz.prog 168 2 = some (2, .scal) := by kernel_rfl
@[push_cast] theorem pl168 : places Tryz.prog 168 = some [(0, 1), (1, 1), (2, 1)] := by kernel_rfl
@[push_cast] theorem nk168 : nk Tryz.prog 168 = .other := by kernel_rfl
@[push_cast] theorem cc168 : Go.Abs.concrete Tryz.prog 168 = true := by kernel_rfl
@[push_cast] theorem isl168 : isSlc Tryz.prog 168 = false := by kernel_rfl
@[push_cast] theorem ist168 : isStr Tryz.prog 168 = false := by kernel_rfl
@[push_cast] theorem ik168 : ikd Tryz.prog 168 = none := by kernel_rfl
@[push_cast] theorem tk169 : tk Tryz.prog 169 = .scal := by kernel_rfl
@[push_cast] theorem zc169 : zc Tryz.prog 169 = some [.nilFunc] := by kernel_rfl
@[push_cast] theorem nk169 : nk Tryz.prog 169 = .fnc := by kernel_rfl
@[push_cast] theorem cc169 : Go.Abs.concrete Tryz.prog 169 = true := by kernel_rfl
@[push_cast] theorem isl169 : isSlc Tryz.prog 169 = false := by kernel_rfl
@[push_cast] theorem ist169 : isStr Tryz.prog 169 = false := by kernel_rfl
@[push_cast] theorem ik169 : ikd Tryz.prog 169 = none := by kernel_rfl
@[push_cast] theorem tk170 : tk Tryz.prog 170 = .scal := by kernel_rfl
@[push_cast] theorem zc170 : zc Tryz.prog 170 = some [.nilIface] := by kernel_rfl
@[push_cast] theorem nk170 : nk Tryz.prog 170 = .ifc := by kernel_rfl
@[push_cast] theorem isl170 : isSlc Tryz.prog 170 = false := by kernel_rfl
@[push_cast] theorem ist170 : isStr Tryz.prog 170 = false := by kernel_rfl
@[push_cast] theorem ik170 : ikd Tryz.prog 170 = none := by kernel_rfl
@[push_cast] theorem tk171 : tk Tryz.prog 171 = .scal := by kernel_rfl
@[push_cast] theorem zc171 : zc Tryz.prog 171 = some [.nilIface] := by kernel_rfl
@[push_cast] theorem nk171 : nk Tryz.prog 171 = .ifc := by kernel_rfl
@[push_cast] theorem isl171 : isSlc Tryz.prog 171 = false := by kernel_rfl
@[push_cast] theorem ist171 : isStr Tryz.prog 171 = false := by kernel_rfl
@[push_cast] theorem ik171 : ikd Tryz.prog 171 = none := by kernel_rfl
@[push_cast] theorem tk172 : tk Tryz.prog 172 = .scal := by kernel_rfl
@[push_cast] theorem zc172 : zc Tryz.prog 172 = some [.nilFunc] := by kernel_rfl
@[push_cast] theorem nk172 : nk Tryz.prog 172 = .fnc := by kernel_rfl
@[push_cast] theorem cc172 : Go.Abs.concrete Tryz.prog 172 = true := by kernel_rfl
@[push_cast] theorem isl172 : isSlc Tryz.prog 172 = false := by kernel_rfl
@[push_cast] theorem ist172 : isStr Tryz.prog 172 = false := by kernel_rfl
@[push_cast] theorem ik172 : ikd Tryz.prog 172 = none := by kernel_rfl
@[push_cast] theorem tk173 : tk Tryz.prog 173 = .scal := by kernel_rfl
@[push_cast] theorem zc173 : zc Tryz.prog 173 = some [.int .u8 0] := by kernel_rfl
@[push_cast] theorem nk173 : nk Tryz.prog 173 = .other := by kernel_rfl
@[push_cast] theorem cc173 : Go.Abs.concrete Tryz.prog 173 = true := by kernel_rfl
@[push_cast] theorem isl173 : isSlc Tryz.prog 173 = false := by kernel_rfl
@[push_cast] theorem ist173 : isStr Tryz.prog 173 = false := by kernel_rfl
@[push_cast] theorem ik173 : ikd Tryz.prog 173 = some .u8 := by kernel_rfl
@[push_cast] theorem tk174 : tk Tryz.prog 174 = .scal := by kernel_rfl
@[push_cast] theorem zc174 : zc Tryz.prog 174 = some [.nilFunc] := by kernel_rfl
@[push_cast] theorem nk174 : nk Tryz.prog 174 = .fnc := by kernel_rfl
@[push_cast] theorem cc174 : Go.Abs.concrete Tryz.prog 174 = true := by kernel_rfl
@[push_cast] theorem isl174 : isSlc Tryz.prog 174 = false := by kernel_rfl
@[push_cast] theorem ist174 : isStr Tryz.prog 174 = false := by kernel_rfl
@[push_cast] theorem ik174 : ikd Tryz.prog 174 = none := by kernel_rfl
@[push_cast] theorem tk175 : tk Tryz.prog 175 = .scal := by kernel_rfl
@[push_cast] theorem zc175 : zc Tryz.prog 175 = some [.nilFunc] := by kernel_rfl
@[push_cast] theorem nk175 : nk Tryz.prog 175 = .fnc := by kernel_rfl
@[push_cast] theorem cc175 : Go.Abs.concrete Tryz.prog 175 = true := by kernel_rfl
@[push_cast] theorem isl175 : isSlc Tryz.prog 175 = false := by kernel_rfl
@[push_cast] theorem ist175 : isStr Tryz.prog 175 = false := by kernel_rfl
@[push_cast] theorem ik175 : ikd Tryz.prog 175 = none := by kernel_rfl
@[push_cast] theorem tk176 : tk Tryz.prog 176 = .scal := by kernel_rfl
@[push_cast] theorem zc176 : zc Tryz.prog 176 = some [.nilFunc] := by kernel_rfl
@[push_cast] theorem nk176 : nk Tryz.prog 176 = .fnc := by kernel_rfl
@[push_cast] theorem cc176 : Go.Abs.concrete Tryz.prog 176 = true := by kernel_rfl
@[push_cast] theorem isl176 : isSlc Tryz.prog 176 = false := by kernel_rfl
@[push_cast] theorem ist176 : isStr Tryz.prog 176 = false := by kernel_rfl
@[push_cast] theorem ik176 : ikd Tryz.prog 176 = none := by kernel_rfl
@[push_cast] theorem tk177 : tk Tryz.prog 177 = .scal := by kernel_rfl
@[push_cast] theorem zc177 : zc Tryz.prog 177 = some [.nilFunc] := by kernel_rfl
@[push_cast] theorem nk177 : nk Tryz.prog 177 = .fnc := by kernel_rfl
@[push_cast] theorem cc177 : Go.Abs.concrete Tryz.prog 177 = true := by kernel_rfl
@[push_cast] theorem isl177 : isSlc Tryz.prog 177 = false := by kernel_rfl
@[push_cast] theorem ist177 : isStr Tryz.prog 177 = false := by kernel_rfl
@[push_cast] theorem ik177 : ikd Tryz.prog 177 = none := by kernel_rfl
@[push_cast] theorem tk178 : tk Tryz.prog 178 = .scal := by kernel_rfl
@[push_cast] theorem zc178 : zc Tryz.prog 178 = some [.nilFunc] := by kernel_rfl
@[push_cast] theorem nk178 : nk Tryz.prog 178 = .fnc := by kernel_rfl
@[push_cast] theorem cc178 : Go.Abs.concrete Tryz.prog 178 = true := by kernel_rfl
@[push_cast] theorem isl178 : isSlc Tryz.prog 178 = false := by kernel_rfl
@[push_cast] theorem ist178 : isStr Tryz.prog 178 = false := by kernel_rfl
@[push_cast] theorem ik178 : ikd Tryz.prog 178 = none := by kernel_rfl
@[push_cast] theorem tk179 : tk Tryz.prog 179 = .scal := by kernel_rfl
@[push_cast] theorem zc179 : zc Tryz.prog 179 = some [.nilFunc] := by kernel_rfl
@[push_cast] theorem nk179 : nk Tryz.prog 179 = .fnc := by kernel_rfl
@[push_cast] theorem cc179 : Go.Abs.concrete Tryz.prog 179 = true := by kernel_rfl
@[push_cast] theorem isl179 : isSlc Tryz.prog 179 = false := by kernel_rfl
@[push_cast] theorem ist179 : isStr Tryz.prog 179 = false := by kernel_rfl
@[push_cast] theorem ik179 : ikd Tryz.prog 179 = none := by kernel_rfl
@[push_cast] theorem tk180 : tk Tryz.prog 180 = .scal := by kernel_rfl
@[push_cast] theorem zc180 : zc Tryz.prog 180 = some [.nilFunc] := by kernel_rfl
@[push_cast] theorem nk180 : nk Tryz.prog 180 = .fnc := by kernel_rfl
@[push_cast] theorem cc180 : Go.Abs.concrete Tryz.prog 180 = true := by kernel_rfl
@[push_cast] theorem isl180 : isSlc Tryz.prog 180 = false := by kernel_rfl
@[push_cast] theorem ist180 : isStr Tryz.prog 180 = false := by kernel_rfl
@[push_cast] theorem ik180 : ikd Tryz.prog 180 = none := by kernel_rfl
@[push_cast] theorem tk181 : tk Tryz.prog 181 = .scal := by kernel_rfl
@[push_cast] theorem zc181 : zc Tryz.prog 181 = some [.slice none 0 0] := by kernel_rfl
@[push_cast] theorem nk181 : nk Tryz.prog 181 = .slc := by kernel_rfl
@[push_cast] theorem cc181 : Go.Abs.concrete Tryz.prog 181 = true := by kernel_rfl
@[push_cast] theorem isl181 : isSlc Tryz.prog 181 = true := by kernel_rfl
@[push_cast] theorem ist181 : isStr Tryz.prog 181 = false := by kernel_rfl
@[push_cast] theorem ik181 : ikd Tryz.prog 181 = none := by kernel_rfl
@[push_cast] theorem es181 : elSz Tryz.prog 181 = some 7 := by kernel_rfl
@[push_cast] theorem eb181 : elB Tryz.prog 181 = 64 := by kernel_rfl
@[push_cast] theorem el181 : elT Tryz.prog 181 = some 135 := by kernel_rfl
@[push_cast] theorem by181 : isBys Tryz.prog 181 = false := by kernel_rfl
@[push_cast] theorem tk182 : tk Tryz.prog 182 = .aggr 3 := by kernel_rfl
@[push_cast] theorem zc182 : zc Tryz.prog 182 = some [.slice none 0 0, .slice none 0 0, .slice none 0 0] := by kernel_rfl
@[push_cast] theorem pl182 : places Tryz.prog 182 = some [(0, 1), (1, 1), (2, 1)] := by kernel_rfl
@[push_cast] theorem at182 : arrT Tryz.prog 182 = some (3, 181, 1) := by kernel_rfl
@[push_cast] theorem nk182 : nk Tryz.prog 182 = .other := by kernel_rfl
@[push_cast] theorem cc182 : Go.Abs.concrete Tryz.prog 182 = true := by kernel_rfl
@[push_cast] theorem isl182 : isSlc Tryz.prog 182 = false := by kernel_rfl
@[push_cast] theorem ist182 : isStr Tryz.prog 182 = false := by kernel_rfl
@[push_cast] theorem ik182 : ikd Tryz.prog 182 = none := by kernel_rfl
@[push_cast] theorem tk183 : tk Tryz.prog 183 = .scal := by kernel_rfl
@[push_cast] theorem zc183 : zc Tryz.prog 183 = some [.nilFunc] := by kernel_rfl
@[push_cast] theorem nk183 : nk Tryz.prog 183 = .fnc := by kernel_rfl
@[push_cast] theorem cc183 : Go.Abs.concrete Tryz.prog 183 = true := by kernel_rfl
@[push_cast] theorem isl183 : isSlc Tryz.prog 183 = false := by kernel_rfl
@[push_cast] theorem ist183 : isStr Tryz.prog 183 = false := by kernel_rfl
@[push_cast] theorem ik183 : ikd Tryz.prog 183 = none := by kernel_rfl
@[push_cast] theorem tk184 : tk Tryz.prog 184 = .scal := by kernel_rfl
@[push_cast] theorem zc184 : zc Tryz.prog 184 = some [.nilFunc] := by kernel_rfl
@[push_cast] theorem nk184 : nk Tryz.prog 184 = .fnc := by kernel_rfl
@[push_cast] theorem cc184 : Go.Abs.concrete Tryz.prog 184 = true := by kernel_rfl
@[push_cast] theorem isl184 : isSlc Tryz.prog 184 = false := by kernel_rfl
@[push_cast] theorem ist184 : isStr Tryz.prog 184 = false := by kernel_rfl
@[push_cast] theorem ik184 : ikd Tryz.prog 184 = none := by kernel_rfl
@[push_cast] theorem tk185 : tk Tryz.prog 185 = .scal := by kernel_rfl
@[push_cast] theorem zc185 : zc Tryz.prog 185 = some [.nilFunc] := by kernel_rfl
@[push_cast] theorem nk185 : nk Tryz.prog 185 = .fnc := by kernel_rfl
@[push_cast] theorem cc185 : Go.Abs.concrete Tryz.prog 185 = true := by kernel_rfl
@[push_cast] theorem isl185 : isSlc Tryz.prog 185 = false := by kernel_rfl
@[push_cast] theorem ist185 : isStr Tryz.prog 185 = false := by kernel_rfl
@[push_cast] theorem ik185 : ikd Tryz.prog 185 = none := by kernel_rfl
@[push_cast] theorem tk186 : tk Tryz.prog 186 = .scal := by kernel_rfl
@[push_cast] theorem zc186 : zc Tryz.prog 186 = some [.nilFunc] := by kernel_rfl
@[push_cast] theorem nk186 : nk Tryz.prog 186 = .fnc := by kernel_rfl
@[push_cast] theorem cc186 : Go.Abs.concrete Tryz.prog 186 = true := by kernel_rfl
@[push_cast] theorem isl186 : isSlc Tryz.prog 186 = false := by kernel_rfl
@[push_cast] theorem ist186 : isStr Tryz.prog 186 = false := by kernel_rfl
@[push_cast] theorem ik186 : ikd Tryz.prog 186 = none := by kernel_rfl
@[push_cast] theorem tk187 : tk Tryz.prog 187 = .scal := by kernel_rfl
@[push_cast] theorem zc187 : zc Tryz.prog 187 = some [.nilFunc] := by kernel_rfl
@[push_cast] theorem nk187 : nk Tryz.prog 187 = .fnc := by kernel_rfl
@[push_cast] theorem cc187 : Go.Abs.concrete Tryz.prog 187 = true := by kernel_rfl
@[push_cast] theorem isl187 : isSlc Tryz.prog 187 = false := by kernel_rfl
@[push_cast] theorem ist187 : isStr Tryz.prog 187 = false := by kernel_rfl
@[push_cast] theorem ik187 : ikd Tryz.prog 187 = none := by kernel_rfl
@[push_cast] theorem tk188 : tk Tryz.prog 188 = .scal := by kernel_rfl
@[push_cast] theorem zc188 : zc Tryz.prog 188 = some [.nilFunc] := by kernel_rfl
@[push_cast] theorem nk188 : nk Tryz.prog 188 = .fnc := by kernel_rfl
@[push_cast] theorem cc188 : Go.Abs.concrete Tryz.prog 188 = true := by kernel_rfl
@[push_cast] theorem isl188 : isSlc Tryz.prog 188 = false := by kernel_rfl
@[push_cast] theorem ist188 : isStr Tryz.prog 188 = false := by kernel_rfl
@[push_cast] theorem ik188 : ikd Tryz.prog 188 = none := by kernel_rfl
@[push_cast] theorem tk189 : tk Tryz.prog 189 = .aggr 1 := by kernel_rfl
@[push_cast] theorem zc189 : zc Tryz.prog 189 = some [.pointer none] := by kernel_rfl
@[push_cast] theorem fld189_0 : fld Tryz.prog 189 0 = some (0, .scal) := by kernel_rfl
@[push_cast] theorem pl189 : places Tryz.prog 189 = some [(0, 1)] := by kernel_rfl
@[push_cast] theorem nk189 : nk Tryz.prog 189 = .other := by kernel_rfl
@[push_cast] theorem cc189 : Go.Abs.concrete Tryz.prog 189 = true := by kernel_rfl
@[push_cast] theorem isl189 : isSlc Tryz.prog 189 = false := by kernel_rfl
@[push_cast] theorem ist189 : isStr Tryz.prog 189 = false := by kernel_rfl
@[push_cast] theorem ik189 : ikd Tryz.prog 189 = none := by kernel_rfl
@[push_cast] theorem tk190 : tk Tryz.prog 190 = .aggr 1 := by kernel_rfl
@[push_cast] theorem zc190 : zc Tryz.prog 190 = some [.pointer none] := by kernel_rfl
@[push_cast] theorem fld190_0 : fld Tryz.prog 190 0 = some (0, .scal) := by kernel_rfl
@[push_cast] theorem pl190 : places Tryz.prog 190 = some [(0, 1)] := by kernel_rfl
@[push_cast] theorem nk190 : nk Tryz.prog 190 = .other := by kernel_rfl
@[push_cast] theorem cc190 : Go.Abs.concrete Tryz.prog 190 = true := by kernel_rfl
@[push_cast] theorem isl190 : isSlc Tryz.prog 190 = false := by kernel_rfl
@[push_cast] theorem ist190 : isStr Tryz.prog 190 = false := by kernel_rfl
@[push_cast] theorem ik190 : ikd Tryz.prog 190 = none := by kernel_rfl
@[push_cast] theorem tk191 : tk Tryz.prog 191 = .scal := by kernel_rfl
@[push_cast] theorem zc191 : zc Tryz.prog 191 = some [.pointer none] := by kernel_rfl
@[push_cast] theorem nk191 : nk Tryz.prog 191 = .ptr := by kernel_rfl
@[push_cast] theorem cc191 : Go.Abs.concrete Tryz.prog 191 = true := by kernel_rfl
@[push_cast] theorem isl191 : isSlc Tryz.prog 191 = false := by kernel_rfl
@[push_cast] theorem ist191 : isStr Tryz.prog 191 = false := by kernel_rfl
@[push_cast] theorem ik191 : ikd Tryz.prog 191 = none := by kernel_rfl
@[push_cast] theorem tk192 : tk Tryz.prog 192 = .scal := by kernel_rfl
@[push_cast] theorem zc192 : zc Tryz.prog 192 = some [.nilFunc] := by kernel_rfl
@[push_cast] theorem nk192 : nk Tryz.prog 192 = .fnc := by kernel_rfl
@[push_cast] theorem cc192 : Go.Abs.concrete Tryz.prog 192 = true := by kernel_rfl
@[push_cast] theorem isl192 : isSlc Tryz.prog 192 = false := by kernel_rfl
@[push_cast] theorem ist192 : isStr Tryz.prog 192 = false := by kernel_rfl
@[push_cast] theorem ik192 : ikd Tryz.prog 192 = none := by kernel_rfl
@[push_cast] theorem tk193 : tk Tryz.prog 193 = .scal := by kernel_rfl
@[push_cast] theorem zc193 : zc Tryz.prog 193 = some [.nilFunc] := by kernel_rfl
@[push_cast] theorem nk193 : nk Tryz.prog 193 = .fnc := by kernel_rfl
@[push_cast] theorem cc193 : Go.Abs.concrete Tryz.prog 193 = true := by kernel_rfl
@[push_cast] theorem isl193 : isSlc Tryz.prog 193 = false := by kernel_rfl
@[push_cast] theorem ist193 : isStr Tryz.prog 193 = false := by kernel_rfl
@[push_cast] theorem ik193 : ikd Tryz.prog 193 = none := by kernel_rfl
@[push_cast] theorem tk194 : tk Tryz.prog 194 = .scal := by kernel_rfl
@[push_cast] theorem zc194 : zc Tryz.prog 194 = some [.nilFunc] := by kernel_rfl
@[push_cast] theorem nk194 : nk Tryz.prog 194 = .fnc := by kernel_rfl
@[push_cast] theorem cc194 : Go.Abs.concrete Tryz.prog 194 = true := by kernel_rfl
@[push_cast] theorem isl194 : isSlc Tryz.prog 194 = false := by kernel_rfl
@[push_cast] theorem ist194 : isStr Tryz.prog 194 = false := by kernel_rfl
@[push_cast] theorem ik194 : ikd Tryz.prog 194 = none := by kernel_rfl
@[push_cast] theorem tk195 : tk Tryz.prog 195 = .scal := by kernel_rfl
@[push_cast] theorem zc195 : zc Tryz.prog 195 = some [.nilIface] := by kernel_rfl
@[push_cast] theorem nk195 : nk Tryz.prog 195 = .ifc := by kernel_rfl
@[push_cast] theorem isl195 : isSlc Tryz.prog 195 = false := by kernel_rfl
@[push_cast] theorem ist195 : isStr Tryz.prog 195 = false := by kernel_rfl
@[push_cast] theorem ik195 : ikd Tryz.prog 195 = none := by kernel_rfl
@[push_cast] theorem tk197 : tk Tryz.prog 197 = .scal := by kernel_rfl
@[push_cast] theorem zc197 : zc Tryz.prog 197 = some [.nilFunc] := by kernel_rfl
@[push_cast] theorem nk197 : nk Tryz.prog 197 = .fnc := by kernel_rfl
@[push_cast] theorem cc197 : Go.Abs.concrete Tryz.prog 197 = true := by kernel_rfl
@[push_cast] theorem isl197 : isSlc Tryz.prog 197 = false := by kernel_rfl
@[push_cast] theorem ist197 : isStr Tryz.prog 197 = false := by kernel_rfl
@[push_cast] theorem ik197 : ikd Tryz.prog 197 = none := by kernel_rfl
@[push_cast] theorem tk198 : tk Tryz.prog 198 = .scal := by kernel_rfl
@[push_cast] theorem zc198 : zc Tryz.prog 198 = some [.nilIface] := by kernel_rfl
@[push_cast] theorem nk198 : nk Tryz.prog 198 = .ifc := by kernel_rfl
@[push_cast] theorem isl198 : isSlc Tryz.prog 198 = false := by kernel_rfl
@[push_cast] theorem ist198 : isStr Tryz.prog 198 = false := by kernel_rfl
@[push_cast] theorem ik198 : ikd Tryz.prog 198 = none := by kernel_rfl
@[push_cast] theorem tk199 : tk Tryz.prog 199 = .scal := by kernel_rfl
@[push_cast] theorem zc199 : zc Tryz.prog 199 = some [.nilFunc] := by kernel_rfl
@[push_cast] theorem nk199 : nk Tryz.prog 199 = .fnc := by kernel_rfl
@[push_cast] theorem cc199 : Go.Abs.concrete Tryz.prog 199 = true := by kernel_rfl
@[push_cast] theorem isl199 : isSlc Tryz.prog 199 = false := by kernel_rfl
@[push_cast] theorem ist199 : isStr Tryz.prog 199 = false := by kernel_rfl
@[push_cast] theorem ik199 : ikd Tryz.prog 199 = none := by kernel_rfl
@[push_cast] theorem tk200 : tk Tryz.prog 200 = .scal := by kernel_rfl
@[push_cast] theorem zc200 : zc Tryz.prog 200 = some [.nilIface] := by kernel_rfl
@[push_cast] theorem nk200 : nk Tryz.prog 200 = .ifc := by kernel_rfl
@[push_cast] theorem isl200 : isSlc Tryz.prog 200 = false := by kernel_rfl
@[push_cast] theorem ist200 : isStr Tryz.prog 200 = false := by kernel_rfl
@[push_cast] theorem ik200 : ikd Tryz.prog 200 = none := by kernel_rfl
@[push_cast] theorem tk201 : tk Tryz.prog 201 = .scal := by kernel_rfl
@[push_cast] theorem zc201 : zc Tryz.prog 201 = some [.slice none 0 0] := by kernel_rfl
@[push_cast] theorem nk201 : nk Tryz.prog 201 = .slc := by kernel_rfl
@[push_cast] theorem cc201 : Go.Abs.concrete Tryz.prog 201 = true := by kernel_rfl
@[push_cast] theorem isl201 : isSlc Tryz.prog 201 = true := by kernel_rfl
@[push_cast] theorem ist201 : isStr Tryz.prog 201 = false := by kernel_rfl
@[push_cast] theorem ik201 : ikd Tryz.prog 201 = none := by kernel_rfl
@[push_cast] theorem es201 : elSz Tryz.prog 201 = some 1 := by kernel_rfl
@[push_cast] theorem eb201 : elB Tryz.prog 201 = 16 := by kernel_rfl
@[push_cast] theorem el201 : elT Tryz.prog 201 = some 61 := by kernel_rfl
@[push_cast] theorem by201 : isBys Tryz.prog 201 = false := by kernel_rfl
@[push_cast] theorem tk202 : tk Tryz.prog 202 = .scal := by kernel_rfl
@[push_cast] theorem zc202 : zc Tryz.prog 202 = some [.nilFunc] := by kernel_rfl
@[push_cast] theorem nk202 : nk Tryz.prog 202 = .fnc := by kernel_rfl
@[push_cast] theorem cc202 : Go.Abs.concrete Tryz.prog 202 = true := by kernel_rfl
@[push_cast] theorem isl202 : isSlc Tryz.prog 202 = false := by kernel_rfl
@[push_cast] theorem ist202 : isStr Tryz.prog 202 = false := by kernel_rfl
@[push_cast] theorem ik202 : ikd Tryz.prog 202 = none := by kernel_rfl
@[push_cast] theorem tk203 : tk Tryz.prog 203 = .scal := by kernel_rfl
@[push_cast] theorem zc203 : zc Tryz.prog 203 = some [.pointer none] := by kernel_rfl
@[push_cast] theorem nk203 : nk Tryz.prog 203 = .ptr := by kernel_rfl
@[push_cast] theorem cc203 : Go.Abs.concrete Tryz.prog 203 = true := by kernel_rfl
@[push_cast] theorem isl203 : isSlc Tryz.prog 203 = false := by kernel_rfl
@[push_cast] theorem ist203 : isStr Tryz.prog 203 = false := by kernel_rfl
@[push_cast] theorem ik203 : ikd Tryz.prog 203 = none := by kernel_rfl
@[push_cast] theorem tk204 : tk Tryz.prog 204 = .scal := by kernel_rfl
@[push_cast] theorem zc204 : zc Tryz.prog 204 = some [.nilFunc] := by kernel_rfl
@[push_cast] theorem nk204 : nk Tryz.prog 204 = .fnc := by kernel_rfl
@[push_cast] theorem cc204 : Go.Abs.concrete Tryz.prog 204 = true := by kernel_rfl
@[push_cast] theorem isl204 : isSlc Tryz.prog 204 = false := by kernel_rfl
@[push_cast] theorem ist204 : isStr Tryz.prog 204 = false := by kernel_rfl
@[push_cast] theorem ik204 : ikd Tryz.prog 204 = none := by kernel_rfl
@[push_cast] theorem tk205 : tk Tryz.prog 205 = .scal := by kernel_rfl
@[push_cast] theorem zc205 : zc Tryz.prog 205 = some [.nilFunc] := by kernel_rfl
@[push_cast] theorem nk205 : nk Tryz.prog 205 = .fnc := by kernel_rfl
@[push_cast] theorem cc205 : Go.Abs.concrete Tryz.prog 205 = true := by kernel_rfl
@[push_cast] theorem isl205 : isSlc Tryz.prog 205 = false := by kernel_rfl
@[push_cast] theorem ist205 : isStr Tryz.prog 205 = false := by kernel_rfl
@[push_cast] theorem ik205 : ikd Tryz.prog 205 = none := by kernel_rfl
@[push_cast] theorem tk206 : tk Tryz.prog 206 = .scal := by kernel_rfl
@[push_cast] theorem zc206 : zc Tryz.prog 206 = some [.nilFunc] := by kernel_rfl
@[push_cast] theorem nk206 : nk Tryz.prog 206 = .fnc := by kernel_rfl
@[push_cast] theorem cc206 : Go.Abs.concrete Tryz.prog 206 = true := by kernel_rfl
@[push_cast] theorem isl206 : isSlc Tryz.prog 206 = false := by kernel_rfl
@[push_cast] theorem ist206 : isStr Tryz.prog 206 = false := by kernel_rfl
@[push_cast] theorem ik206 : ikd Tryz.prog 206 = none := by kernel_rfl
@[push_cast] theorem tk207 : tk Tryz.prog 207 = .aggr 2 := by kernel_rfl
@[push_cast] theorem zc207 : zc Tryz.prog 207 = some [.slice none 0 0, .int .i64 0] := by kernel_rfl
@[push_cast] theorem fld207_0 : fld Tryz.prog 207 0 = some (0, .scal) := by kernel_rfl
@[push_cast] theorem fld207_1 : fld Tryz.prog 207 1 = some (1, .scal) := by kernel_rfl
@[push_cast] theorem pl207 : places Tryz.prog 207 = some [(0, 1), (1, 1)] := by kernel_rfl
@[push_cast] theorem nk207 : nk Tryz.prog 207 = .other := by kernel_rfl
@[push_cast] theorem cc207 : Go.Abs.concrete Tryz.prog 207 = true := by kernel_rfl
@[push_cast] theorem isl207 : isSlc Tryz.prog 207 = false := by kernel_rfl
@[push_cast] theorem ist207 : isStr Tryz.prog 207 = false := by kernel_rfl
@[push_cast] theorem ik207 : ikd Tryz.prog 207 = none := by kernel_rfl
@[push_cast] theorem tk208 : tk Tryz.prog 208 = .aggr 2 := by kernel_rfl
@[push_cast] theorem zc208 : zc Tryz.prog 208 = some [.slice none 0 0, .int .i64 0] := by kernel_rfl
@[push_cast] theorem fld208_0 : fld Tryz.prog 208 0 = some (0, .scal) := by kernel_rfl
@[push_cast] theorem fld208_1 : fld Tryz.prog 208 1 = some (1, .scal) := by kernel_rfl
@[push_cast] theorem pl208 : places Tryz.prog 208 = some [(0, 1), (1, 1)] := by kernel_rfl
@[push_cast] theorem nk208 : nk Tryz.prog 208 = .other := by kernel_rfl
@[push_cast] theorem cc208 : Go.Abs.concrete Tryz.prog 208 = true := by kernel_rfl
@[push_cast] theorem isl208 : isSlc Tryz.prog 208 = false := by kernel_rfl
@[push_cast] theorem ist208 : isStr Tryz.prog 208 = false := by kernel_rfl
@[push_cast] theorem ik208 : ikd Tryz.prog 208 = none := by kernel_rfl
@[push_cast] theorem tk209 : tk Tryz.prog 209 = .scal := by kernel_rfl
@[push_cast] theorem zc209 : zc Tryz.prog 209 = some [.nilFunc] := by kernel_rfl
@[push_cast] theorem nk209 : nk Tryz.prog 209 = .fnc := by kernel_rfl
@[push_cast] theorem cc209 : Go.Abs.concrete Tryz.prog 209 = true := by kernel_rfl
@[push_cast] theorem isl209 : isSlc Tryz.prog 209 = false := by kernel_rfl
@[push_cast] theorem ist209 : isStr Tryz.prog 209 = false := by kernel_rfl
@[push_cast] theorem ik209 : ikd Tryz.prog 209 = none := by kernel_rfl
@[push_cast] theorem tk210 : tk Tryz.prog 210 = .scal := by kernel_rfl
@[push_cast] theorem zc210 : zc Tryz.prog 210 = some [.nilFunc] := by kernel_rfl
@[push_cast] theorem nk210 : nk Tryz.prog 210 = .fnc := by kernel_rfl
@[push_cast] theorem cc210 : Go.Abs.concrete Tryz.prog 210 = true := by kernel_rfl
@[push_cast] theorem isl210 : isSlc Tryz.prog 210 = false := by kernel_rfl
@[push_cast] theorem ist210 : isStr Tryz.prog 210 = false := by kernel_rfl
@[push_cast] theorem ik210 : ikd Tryz.prog 210 = none := by kernel_rfl
@[push_cast] theorem tk211 : tk Tryz.prog 211 = .aggr 4 := by kernel_rfl
@[push_cast] theorem zc211 : zc Tryz.prog 211 = some [.pointer none, .pointer none, .pointer none, .string ⟨#[]⟩] := by kernel_rfl
@[push_cast] theorem fld211_0 : fld Tryz.prog 211 0 = some (0, .scal) := by kernel_rfl
@[push_cast] theorem fld211_1 : fld Tryz.prog 211 1 = some (1, .scal) := by kernel_rfl
@[push_cast] theorem fld211_2 : fld Tryz.prog 211 2 = some (2, .scal) := by kernel_rfl
@[push_cast] theorem fld211_3 : fld Tryz.prog 211 3 = some (3, .scal) := by kernel_rfl
@[push_cast] theorem pl211 : places Tryz.prog 211 = some [(0, 1), (1, 1), (2, 1), (3, 1)] := by kernel_rfl
@[push_cast] theorem nk211 : nk Tryz.prog 211 = .other := by kernel_rfl
@[push_cast] theorem cc211 : Go.Abs.concrete Tryz.prog 211 = true := by kernel_rfl
@[push_cast] theorem isl211 : isSlc Tryz.prog 211 = false := by kernel_rfl
@[push_cast] theorem ist211 : isStr Tryz.prog 211 = false := by kernel_rfl
@[push_cast] theorem ik211 : ikd Tryz.prog 211 = none := by kernel_rfl
@[push_cast] theorem tk212 : tk Tryz.prog 212 = .aggr 4 := by kernel_rfl
@[push_cast] theorem zc212 : zc Tryz.prog 212 = some [.pointer none, .pointer none, .pointer none, .string ⟨#[]⟩] := by kernel_rfl
@[push_cast] theorem fld212_0 : fld Tryz.prog 212 0 = some (0, .scal) := by kernel_rfl
@[push_cast] theorem fld212_1 : fld Tryz.prog 212 1 = some (1, .scal) := by kernel_rfl
@[push_cast] theorem fld212_2 : fld Tryz.prog 212 2 = some (2, .scal) := by kernel_rfl
@[push_cast] theorem fld212_3 : fld Tryz.prog 212 3 = some (3, .scal) := by kernel_rfl
@[push_cast] theorem pl212 : places Tryz.prog 212 = some [(0, 1), (1, 1), (2, 1), (3, 1)] := by kernel_rfl
@[push_cast] theorem nk212 : nk Tryz.prog 212 = .other := by kernel_rfl
@[push_cast] theorem cc212 : Go.Abs.concrete Tryz.prog 212 = true := by kernel_rfl
@[push_cast] theorem isl212 : isSlc Tryz.prog 212 = false := by kernel_rfl
@[push_cast] theorem ist212 : isStr Tryz.prog 212 = false := by kernel_rfl
@[push_cast] theorem ik212 : ikd Tryz.prog 212 = none := by kernel_rfl
@[push_cast] theorem tk213 : tk Tryz.prog 213 = .aggr 0 := by kernel_rfl
@[push_cast] theorem zc213 : zc Tryz.prog 213 = some [] := by kernel_rfl
@[push_cast] theorem pl213 : places Tryz.prog 213 = some [] := by kernel_rfl
@[push_cast] theorem at213 : arrT Tryz.prog 213 = some (0, 16, 1) := by kernel_rfl
@[push_cast] theorem nk213 : nk Tryz.prog 213 = .other := by kernel_rfl
@[push_cast] theorem cc213 : Go.Abs.concrete Tryz.prog 213 = true := by kernel_rfl
@[push_cast] theorem isl213 : isSlc Tryz.prog 213 = false := by kernel_rfl
@[push_cast] theorem ist213 : isStr Tryz.prog 213 = false := by kernel_rfl
@[push_cast] theorem ik213 : ikd Tryz.prog 213 = none := by kernel_rfl
@[push_cast] theorem tk214 : tk Tryz.prog 214 = .aggr 0 := by kernel_rfl
@[push_cast] theorem zc214 : zc Tryz.prog 214 = some [] := by kernel_rfl
@[push_cast] theorem pl214 : places Tryz.prog 214 = some [(0, 0)] := by kernel_rfl
@[push_cast] theorem nk214 : nk Tryz.prog 214 = .other := by kernel_rfl
@[push_cast] theorem cc214 : Go.Abs.concrete Tryz.prog 214 = true := by kernel_rfl
@[push_cast] theorem isl214 : isSlc Tryz.prog 214 = false := by kernel_rfl
@[push_cast] theorem ist214 : isStr Tryz.prog 214 = false := by kernel_rfl
@[push_cast] theorem ik214 : ikd Tryz.prog 214 = none := by kernel_rfl
@[push_cast] theorem tk215 : tk Tryz.prog 215 = .aggr 0 := by kernel_rfl
@[push_cast] theorem zc215 : zc Tryz.prog 215 = some [] := by kernel_rfl
@[push_cast] theorem pl215 : places Tryz.prog 215 = some [(0, 0)] := by kernel_rfl
@[push_cast] theorem nk215 : nk Tryz.prog 215 = .other := by kernel_rfl
@[push_cast] theorem cc215 : Go.Abs.concrete Tryz.prog 215 = true := by kernel_rfl
@[push_cast] theorem isl215 : isSlc Tryz.prog 215 = false := by kernel_rfl
@[push_cast] theorem ist215 : isStr Tryz.prog 215 = false := by kernel_rfl
@[push_cast] theorem ik215 : ikd Tryz.prog 215 = none := by kernel_rfl
@[push_cast] theorem tk216 : tk Tryz.prog 216 = .scal := by kernel_rfl
@[push_cast] theorem zc216 : zc Tryz.prog 216 = some [.nilFunc] := by kernel_rfl
@[push_cast] theorem nk216 : nk Tryz.prog 216 = .fnc := by kernel_rfl
@[push_cast] theorem cc216 : Go.Abs.concrete Tryz.prog 216 = true := by kernel_rfl
@[push_cast] theorem isl216 : isSlc Tryz.prog 216 = false := by kernel_rfl
@[push_cast] theorem ist216 : isStr Tryz.prog 216 = false := by kernel_rfl
@[push_cast] theorem ik216 : ikd Tryz.prog 216 = none := by kernel_rfl
@[push_cast] theorem tk217 : tk Tryz.prog 217 = .scal := by kernel_rfl
@[push_cast] theorem zc217 : zc Tryz.prog 217 = some [.int .u8 0] := by kernel_rfl
@[push_cast] theorem nk217 : nk Tryz.prog 217 = .other := by kernel_rfl
@[push_cast] theorem cc217 : Go.Abs.concrete Tryz.prog 217 = true := by kernel_rfl
@[push_cast] theorem isl217 : isSlc Tryz.prog 217 = false := by kernel_rfl
@[push_cast] theorem ist217 : isStr Tryz.prog 217 = false := by kernel_rfl
@[push_cast] theorem ik217 : ikd Tryz.prog 217 = some .u8 := by kernel_rfl
@[push_cast] theorem tk218 : tk Tryz.prog 218 = .scal := by kernel_rfl
@[push_cast] theorem zc218 : zc Tryz.prog 218 = some [.nilFunc] := by kernel_rfl
@[push_cast] theorem nk218 : nk Tryz.prog 218 = .fnc := by kernel_rfl
@[push_cast] theorem cc218 : Go.Abs.concrete Tryz.prog 218 = true := by kernel_rfl
@[push_cast] theorem isl218 : isSlc Tryz.prog 218 = false := by kernel_rfl
@[push_cast] theorem ist218 : isStr Tryz.prog 218 = false := by kernel_rfl
@[push_cast] theorem ik218 : ikd Tryz.prog 218 = none := by kernel_rfl
@[push_cast] theorem tk219 : tk Tryz.prog 219 = .scal := by kernel_rfl
@[push_cast] theorem zc219 : zc Tryz.prog 219 = some [.pointer none] := by kernel_rfl
@[push_cast] theorem nk219 : nk Tryz.prog 219 = .ptr := by kernel_rfl
@[push_cast] theorem cc219 : Go.Abs.concrete Tryz.prog 219 = true := by kernel_rfl
@[push_cast] theorem isl219 : isSlc Tryz.prog 219 = false := by kernel_rfl
@[push_cast] theorem ist219 : isStr Tryz.prog 219 = false := by kernel_rfl
@[push_cast] theorem ik219 : ikd Tryz.prog 219 = none := by kernel_rfl
@[push_cast] theorem tk220 : tk Tryz.prog 220 = .scal := by kernel_rfl
@[push_cast] theorem zc220 : zc Tryz.prog 220 = some [.int .i32 0] := by kernel_rfl
@[push_cast] theorem nk220 : nk Tryz.prog 220 = .other := by kernel_rfl
@[push_cast] theorem cc220 : Go.Abs.concrete Tryz.prog 220 = true := by kernel_rfl
@[push_cast] theorem isl220 : isSlc Tryz.prog 220 = false := by kernel_rfl
@[push_cast] theorem ist220 : isStr Tryz.prog 220 = false := by kernel_rfl
@[push_cast] theorem ik220 : ikd Tryz.prog 220 = some .i32 := by kernel_rfl
@[push_cast] theorem tk221 : tk Tryz.prog 221 = .scal := by kernel_rfl
@[push_cast] theorem zc221 : zc Tryz.prog 221 = some [.int .i32 0] := by kernel_rfl
@[push_cast] theorem nk221 : nk Tryz.prog 221 = .other := by kernel_rfl
@[push_cast] theorem cc221 : Go.Abs.concrete Tryz.prog 221 = true := by kernel_rfl
@[push_cast] theorem isl221 : isSlc Tryz.prog 221 = false := by kernel_rfl
@[push_cast] theorem ist221 : isStr Tryz.prog 221 = false := by kernel_rfl
@[push_cast] theorem ik221 : ikd Tryz.prog 221 = some .i32 := by kernel_rfl
@[push_cast] theorem tk222 : tk Tryz.prog 222 = .aggr 11 := by kernel_rfl
@[push_cast] theorem zc222 : zc Tryz.prog 222 = some [.int .u64 0, .int .u64 0, .int .u32 0, .int .u8 0, .int .u8 0, .int .u8 0, .int .u8 0, .nilFunc, .pointer none, .int .i32 0, .int .i32 0] := by kernel_rfl
@[push_cast] theorem fld222_0 : fld Tryz.prog 222 0 = some (0, .scal) := by kernel_rfl
@[push_cast] theorem fld222_1 : fld Tryz.prog 222 1 = some (1, .scal) := by kernel_rfl
@[push_cast] theorem fld222_2 : fld Tryz.prog 222 2 = some (2, .scal) := by kernel_rfl
@[push_cast] theorem fld222_3 : fld Tryz.prog 222 3 = some (3, .scal) := by kernel_rfl
@[push_cast] theorem fld222_4 : fld Tryz.prog 222 4 = some (4, .scal) := by kernel_rfl
@[push_cast] theorem fld222_5 : fld Tryz.prog 222 5 = some (5, .scal) := by kernel_rfl
@[push_cast] theorem fld222_6 : fld Tryz.prog 222 6 = some (6, .scal) := by kernel_rfl
@[push_cast] theorem fld222_7 : fld Tryz.prog 222 7 = some (7, .scal) := by kernel_rfl
@[push_cast] theorem fld222_8 : fld Tryz.prog 222 8 = some (8, .scal) := by kernel_rfl
@[push_cast] theorem fld222_9 : fld Tryz.prog 222 9 = some (9, .scal) := by kernel_rfl
@[push_cast] theorem fld222_10 : fld Tryz.prog 222 10 = some (10, .scal) := by kernel_rfl
@[push_cast] theorem pl222 : places Tryz.prog 222 = some [(0, 1), (1, 1), (2, 1), (3, 1), (4, 1), (5, 1), (6, 1), (7, 1), (8, 1), (9, 1), (10, 1)] := by kernel_rfl
@[push_cast] theorem nk222 : nk Tryz.prog 222 = .other := by kernel_rfl
@[push_cast] theorem cc222 : Go.Abs.concrete Tryz.prog 222 = true := by kernel_rfl
@[push_cast] theorem isl222 : isSlc Tryz.prog 222 = false := by kernel_rfl
@[push_cast] theorem ist222 : isStr Tryz.prog 222 = false := by kernel_rfl
@[push_cast] theorem ik222 : ikd Tryz.prog 222 = none := by kernel_rfl
@[push_cast] theorem tk223 : tk Tryz.prog 223 = .aggr 11 := by kernel_rfl
@[push_cast] theorem zc223 : zc Tryz.prog 223 = some [.int .u64 0, .int .u64 0, .int .u32 0, .int .u8 0, .int .u8 0, .int .u8 0, .int .u8 0, .nilFunc, .pointer none, .int .i32 0, .int .i32 0] := by kernel_rfl
@[push_cast] theorem fld223_0 : fld Tryz.prog 223 0 = some (0, .scal) := by kernel_rfl
@[push_cast] theorem fld223_1 : fld Tryz.prog 223 1 = some (1, .scal) := by kernel_rfl
@[push_cast] theorem fld223_2 : fld Tryz.prog 223 2 = some (2, .scal) := by kernel_rfl
@[push_cast] theorem fld223_3 : fld Tryz.prog 223 3 = some (3, .scal) := by kernel_rfl
@[push_cast] theorem fld223_4 : fld Tryz.prog 223 4 = some (4, .scal) := by kernel_rfl
@[push_cast] theorem fld223_5 : fld Tryz.prog 223 5 = some (5, .scal) := by kernel_rfl
@[push_cast] theorem fld223_6 : fld Tryz.prog 223 6 = some (6, .scal) := by kernel_rfl
@[push_cast] theorem fld223_7 : fld Tryz.prog 223 7 = some (7, .scal) := by kernel_rfl
@[push_cast] theorem fld223_8 : fld Tryz.prog 223 8 = some (8, .scal) := by kernel_rfl
@[push_cast] theorem fld223_9 : fld Tryz.prog 223 9 = some (9, .scal) := by kernel_rfl
@[push_cast] theorem fld223_10 : fld Tryz.prog 223 10 = some (10, .scal) := by kernel_rfl
@[push_cast] theorem pl223 : places Tryz.prog 223 = some [(0, 1), (1, 1), (2, 1), (3, 1), (4, 1), (5, 1), (6, 1), (7, 1), (8, 1), (9, 1), (10, 1)] := by kernel_rfl
@[push_cast] theorem nk223 : nk Tryz.prog 223 = .other := by kernel_rfl
@[push_cast] theorem cc223 : Go.Abs.concrete Tryz.prog 223 = true := by kernel_rfl
@[push_cast] theorem isl223 : isSlc Tryz.prog 223 = false := by kernel_rfl
@[push_cast] theorem ist223 : isStr Tryz.prog 223 = false := by kernel_rfl
@[push_cast] theorem ik223 : ikd Tryz.prog 223 = none := by kernel_rfl
@[push_cast] theorem tk224 : tk Tryz.prog 224 = .scal := by kernel_rfl
@[push_cast] theorem zc224 : zc Tryz.prog 224 = some [.nilFunc] := by kernel_rfl
@[push_cast] theorem nk224 : nk Tryz.prog 224 = .fnc := by kernel_rfl
@[push_cast] theorem cc224 : Go.Abs.concrete Tryz.prog 224 = true := by kernel_rfl
@[push_cast] theorem isl224 : isSlc Tryz.prog 224 = false := by kernel_rfl
@[push_cast] theorem ist224 : isStr Tryz.prog 224 = false := by kernel_rfl
@[push_cast] theorem ik224 : ikd Tryz.prog 224 = none := by kernel_rfl
@[push_cast] theorem tk225 : tk Tryz.prog 225 = .scal := by kernel_rfl
@[push_cast] theorem zc225 : zc Tryz.prog 225 = some [.nilFunc] := by kernel_rfl
@[push_cast] theorem nk225 : nk Tryz.prog 225 = .fnc := by kernel_rfl
@[push_cast] theorem cc225 : Go.Abs.concrete Tryz.prog 225 = true := by kernel_rfl
@[push_cast] theorem isl225 : isSlc Tryz.prog 225 = false := by kernel_rfl
@[push_cast] theorem ist225 : isStr Tryz.prog 225 = false := by kernel_rfl
@[push_cast] theorem ik225 : ikd Tryz.prog 225 = none := by kernel_rfl
@[push_cast] theorem tk226 : tk Tryz.prog 226 = .aggr 2 := by kernel_rfl
@[push_cast] theorem zc226 : zc Tryz.prog 226 = some [.string ⟨#[]⟩, .int .u8 0] := by kernel_rfl
@[push_cast] theorem fld226_0 : fld Tryz.prog 226 0 = some (0, .scal) := by kernel_rfl
@[push_cast] theorem fld226_1 : fld Tryz.prog 226 1 = some (1, .scal) := by kernel_rfl
@[push_cast] theorem pl226 : places Tryz.prog 226 = some [(0, 1), (1, 1)] := by kernel_rfl
@[push_cast] theorem nk226 : nk Tryz.prog 226 = .other := by kernel_rfl
@[push_cast] theorem cc226 : Go.Abs.concrete Tryz.prog 226 = true := by kernel_rfl
@[push_cast] theorem isl226 : isSlc Tryz.prog 226 = false := by kernel_rfl
@[push_cast] theorem ist226 : isStr Tryz.prog 226 = false := by kernel_rfl
@[push_cast] theorem ik226 : ikd Tryz.prog 226 = none := by kernel_rfl
@[push_cast] theorem tk227 : tk Tryz.prog 227 = .aggr 2 := by kernel_rfl
@[push_cast] theorem zc227 : zc Tryz.prog 227 = some [.string ⟨#[]⟩, .int .u8 0] := by kernel_rfl
@[push_cast] theorem fld227_0 : fld Tryz.prog 227 0 = some (0, .scal) := by kernel_rfl
@[push_cast] theorem fld227_1 : fld Tryz.prog 227 1 = some (1, .scal) := by kernel_rfl
@[push_cast] theorem pl227 : places Tryz.prog 227 = some [(0, 1), (1, 1)] := by kernel_rfl
@[push_cast] theorem nk227 : nk Tryz.prog 227 = .other := by kernel_rfl
@[push_cast] theorem cc227 : Go.Abs.concrete Tryz.prog 227 = true := by kernel_rfl
@[push_cast] theorem isl227 : isSlc Tryz.prog 227 = false := by kernel_rfl
@[push_cast] theorem ist227 : isStr Tryz.prog 227 = false := by kernel_rfl
@[push_cast] theorem ik227 : ikd Tryz.prog 227 = none := by kernel_rfl
@[push_cast] theorem tk228 : tk Tryz.prog 228 = .scal := by kernel_rfl
@[push_cast] theorem zc228 : zc Tryz.prog 228 = some [.pointer none] := by kernel_rfl
@[push_cast] theorem nk228 : nk Tryz.prog 228 = .ptr := by kernel_rfl
@[push_cast] theorem cc228 : Go.Abs.concrete Tryz.prog 228 = true := by kernel_rfl
@[push_cast] theorem isl228 : isSlc Tryz.prog 228 = false := by kernel_rfl
@[push_cast] theorem ist228 : isStr Tryz.prog 228 = false := by kernel_rfl
@[push_cast] theorem ik228 : ikd Tryz.prog 228 = none := by kernel_rfl
@[push_cast] theorem tk229 : tk Tryz.prog 229 = .scal := by kernel_rfl
@[push_cast] theorem zc229 : zc Tryz.prog 229 = some [.nilFunc] := by kernel_rfl
@[push_cast] theorem nk229 : nk Tryz.prog 229 = .fnc := by kernel_rfl
@[push_cast] theorem cc229 : Go.Abs.concrete Tryz.prog 229 = true := by kernel_rfl
@[push_cast] theorem isl229 : isSlc Tryz.prog 229 = false := by kernel_rfl
@[push_cast] theorem ist229 : isStr Tryz.prog 229 = false := by kernel_rfl
@[push_cast] theorem ik229 : ikd Tryz.prog 229 = none := by kernel_rfl
@[push_cast] theorem tk230 : tk Tryz.prog 230 = .aggr 5 := by kernel_rfl
@[push_cast] theorem zc230 : zc Tryz.prog 230 = some [.int .i32 0, .int .u16 0, .int .u16 0, .int .u32 0, .int .u32 0] := by kernel_rfl
@[push_cast] theorem fld230_0 : fld Tryz.prog 230 0 = some (0, .scal) := by kernel_rfl
@[push_cast] theorem fld230_1 : fld Tryz.prog 230 1 = some (1, .scal) := by kernel_rfl
@[push_cast] theorem fld230_2 : fld Tryz.prog 230 2 = some (2, .scal) := by kernel_rfl
@[push_cast] theorem fld230_3 : fld Tryz.prog 230 3 = some (3, .scal) := by kernel_rfl
@[push_cast] theorem fld230_4 : fld Tryz.prog 230 4 = some (4, .scal) := by kernel_rfl
@[push_cast] theorem pl230 : places Tryz.prog 230 = some [(0, 1), (1, 1), (2, 1), (3, 1), (4, 1)] := by kernel_rfl
@[push_cast] theorem nk230 : nk Tryz.prog 230 = .other := by kernel_rfl
@[push_cast] theorem cc230 : Go.Abs.concrete Tryz.prog 230 = true := by kernel_rfl
@[push_cast] theorem isl230 : isSlc Tryz.prog 230 = false := by kernel_rfl
@[push_cast] theorem ist230 : isStr Tryz.prog 230 = false := by kernel_rfl
@[push_cast] theorem ik230 : ikd Tryz.prog 230 = none := by kernel_rfl
@[push_cast] theorem tk231 : tk Tryz.prog 231 = .aggr 5 := by kernel_rfl
@[push_cast] theorem zc231 : zc Tryz.prog 231 = some [.int .i32 0, .int .u16 0, .int .u16 0, .int .u32 0, .int .u32 0] := by kernel_rfl
@[push_cast] theorem fld231_0 : fld Tryz.prog 231 0 = some (0, .scal) := by kernel_rfl
@[push_cast] theorem fld231_1 : fld Tryz.prog 231 1 = some (1, .scal) := by kernel_rfl
@[push_cast] theorem fld231_2 : fld Tryz.prog 231 2 = some (2, .scal) := by kernel_rfl
@[push_cast] theorem fld231_3 : fld Tryz.prog 231 3 = some (3, .scal) := by kernel_rfl
@[push_cast] theorem fld231_4 : fld Tryz.prog 231 4 = some (4, .scal) := by kernel_rfl
@[push_cast] theorem pl231 : places Tryz.prog 231 = some [(0, 1), (1, 1), (2, 1), (3, 1), (4, 1)] := by kernel_rfl
@[push_cast] theorem nk231 : nk Tryz.prog 231 = .other := by kernel_rfl
@[push_cast] theorem cc231 : Go.Abs.concrete Tryz.prog 231 = true := by kernel_rfl
@[push_cast] theorem isl231 : isSlc Tryz.prog 231 = false := by kernel_rfl
@[push_cast] theorem ist231 : isStr Tryz.prog 231 = false := by kernel_rfl
@[push_cast] theorem ik231 : ikd Tryz.prog 231 = none := by kernel_rfl
@[push_cast] theorem tk232 : tk Tryz.prog 232 = .scal := by kernel_rfl
@[push_cast] theorem zc232 : zc Tryz.prog 232 = some [.slice none 0 0] := by kernel_rfl
@[push_cast] theorem nk232 : nk Tryz.prog 232 = .slc := by kernel_rfl
@[push_cast] theorem cc232 : Go.Abs.concrete Tryz.prog 232 = true := by kernel_rfl
@[push_cast] theorem isl232 : isSlc Tryz.prog 232 = true := by kernel_rfl
@[push_cast] theorem ist232 : isStr Tryz.prog 232 = false := by kernel_rfl
@[push_cast] theorem ik232 : ikd Tryz.prog 232 = none := by kernel_rfl
@[push_cast] theorem es232 : elSz Tryz.prog 232 = some 4 := by kernel_rfl
@[push_cast] theorem eb232 : elB Tryz.prog 232 = 16 := by kernel_rfl
@[push_cast] theorem el232 : elT Tryz.prog 232 = some 235 := by kernel_rfl
@[push_cast] theorem by232 : isBys Tryz.prog 232 = false := by kernel_rfl
@[push_cast] theorem tk233 : tk Tryz.prog 233 = .scal := by kernel_rfl
@[push_cast] theorem zc233 : zc Tryz.prog 233 = some [.int .i32 0] := by kernel_rfl
@[push_cast] theorem nk233 : nk Tryz.prog 233 = .other := by kernel_rfl
@[push_cast] theorem cc233 : Go.Abs.concrete Tryz.prog 233 = true := by kernel_rfl
@[push_cast] theorem isl233 : isSlc Tryz.prog 233 = false := by kernel_rfl
@[push_cast] theorem ist233 : isStr Tryz.prog 233 = false := by kernel_rfl
@[push_cast] theorem ik233 : ikd Tryz.prog 233 = some .i32 := by kernel_rfl
@[push_cast] theorem tk234 : tk Tryz.prog 234 = .aggr 4 := by kernel_rfl
@[push_cast] theorem zc234 : zc Tryz.prog 234 = some [.int .i32 0, .int .i32 0, .int .i32 0, .int .i32 0] := by kernel_rfl
@[push_cast] theorem fld234_0 : fld Tryz.prog 234 0 = some (0, .scal) := by kernel_rfl
@[push_cast] theorem fld234_1 : fld Tryz.prog 234 1 = some (1, .scal) := by kernel_rfl
@[push_cast] theorem fld234_2 : fld Tryz.prog 234 2 = some (2, .scal) := by kernel_rfl
@[push_cast] theorem fld234_3 : fld Tryz.prog 234 3 = some (3, .scal) := by kernel_rfl
@[push_cast] theorem pl234 : places Tryz.prog 234 = some [(0, 1), (1, 1), (2, 1), (3, 1)] := by kernel_rfl
@[push_cast] theorem nk234 : nk Tryz.prog 234 = .other := by kernel_rfl
@[push_cast] theorem cc234 : Go.Abs.concrete Tryz.prog 234 = true := by kernel_rfl
@[push_cast] theorem isl234 : isSlc Tryz.prog 234 = false := by kernel_rfl
@[push_cast] theorem ist234 : isStr Tryz.prog 234 = false := by kernel_rfl
@[push_cast] theorem ik234 : ikd Tryz.prog 234 = none := by kernel_rfl
@[push_cast] theorem tk235 : tk Tryz.prog 235 = .aggr 4 := by kernel_rfl
@[push_cast] theorem zc235 : zc Tryz.prog 235 = some [.int .i32 0, .int .i32 0, .int .i32 0, .int .i32 0] := by kernel_rfl
@[push_cast] theorem fld235_0 : fld Tryz.prog 235 0 = some (0, .scal) := by kernel_rfl
@[push_cast] theorem fld235_1 : fld Tryz.prog 235 1 = some (1, .scal) := by kernel_rfl
@[push_cast] theorem fld235_2 : fld Tryz.prog 235 2 = some (2, .scal) := by kernel_rfl
@[push_cast] theorem fld235_3 : fld Tryz.prog 235 3 = some (3, .scal) := by kernel_rfl
@[push_cast] theorem pl235 : places Tryz.prog 235 = some [(0, 1), (1, 1), (2, 1), (3, 1)] := by kernel_rfl
@[push_cast] theorem nk235 : nk Tryz.prog 235 = .other := by kernel_rfl
@[push_cast] theorem cc235 : Go.Abs.concrete Tryz.prog 235 = true := by kernel_rfl
@[push_cast] theorem isl235 : isSlc Tryz.prog 235 = false := by kernel_rfl
@[push_cast] theorem ist235 : isStr Tryz.prog 235 = false := by kernel_rfl
@[push_cast] theorem ik235 : ikd Tryz.prog 235 = none := by kernel_rfl
@[push_cast] theorem tk236 : tk Tryz.prog 236 = .scal := by kernel_rfl
@[push_cast] theorem zc236 : zc Tryz.prog 236 = some [.pointer none] := by kernel_rfl
@[push_cast] theorem nk236 : nk Tryz.prog 236 = .ptr := by kernel_rfl
@[push_cast] theorem cc236 : Go.Abs.concrete Tryz.prog 236 = true := by kernel_rfl
@[push_cast] theorem isl236 : isSlc Tryz.prog 236 = false := by kernel_rfl
@[push_cast] theorem ist236 : isStr Tryz.prog 236 = false := by kernel_rfl
@[push_cast] theorem ik236 : ikd Tryz.prog 236 = none := by kernel_rfl
@[push_cast] theorem mixed : Tryz.prog.follows .mixedOrders = true := by kernel_rfl
@[push_cast] theorem rg0 : List.range 0 = [] := rfl
@[push_cast] theorem rg1 : List.range 1 = [0] := rfl
@[push_cast] theorem rg2 : List.range 2 = [0, 1] := rfl
@[push_cast] theorem rg3 : List.range 3 = [0, 1, 2] := rfl
@[push_cast] theorem rg4 : List.range 4 = [0, 1, 2, 3] := rfl
@[push_cast] theorem rg5 : List.range 5 = [0, 1, 2, 3, 4] := rfl
@[push_cast] theorem rg6 : List.range 6 = [0, 1, 2, 3, 4, 5] := rfl
@[push_cast] theorem rg7 : List.range 7 = [0, 1, 2, 3, 4, 5, 6] := rfl
@[push_cast] theorem rg8 : List.range 8 = [0, 1, 2, 3, 4, 5, 6, 7] := rfl
@[push_cast] theorem rg9 : List.range 9 = [0, 1, 2, 3, 4, 5, 6, 7, 8] := rfl
@[push_cast] theorem rg10 : List.range 10 = [0, 1, 2, 3, 4, 5, 6, 7, 8, 9] := rfl
@[push_cast] theorem rg11 : List.range 11 = [0, 1, 2, 3, 4, 5, 6, 7, 8, 9, 10] := rfl
@[push_cast] theorem rg12 : List.range 12 = [0, 1, 2, 3, 4, 5, 6, 7, 8, 9, 10, 11] := rfl
@[push_cast] theorem rg13 : List.range 13 = [0, 1, 2, 3, 4, 5, 6, 7, 8, 9, 10, 11, 12] := rfl
@[push_cast] theorem rg14 : List.range 14 = [0, 1, 2, 3, 4, 5, 6, 7, 8, 9, 10, 11, 12, 13] := rfl
@[push_cast] theorem rg15 : List.range 15 = [0, 1, 2, 3, 4, 5, 6, 7, 8, 9, 10, 11, 12, 13, 14] := rfl
@[push_cast] theorem rg16 : List.range 16 = [0, 1, 2, 3, 4, 5, 6, 7, 8, 9, 10, 11, 12, 13, 14, 15] := rfl
@[push_cast] theorem rg17 : List.range 17 = [0, 1, 2, 3, 4, 5, 6, 7, 8, 9, 10, 11, 12, 13, 14, 15, 16] := rfl
@[push_cast] theorem rg18 : List.range 18 = [0, 1, 2, 3, 4, 5, 6, 7, 8, 9, 10, 11, 12, 13, 14, 15, 16, 17] := rfl
@[push_cast] theorem rg19 : List.range 19 = [0, 1, 2, 3, 4, 5, 6, 7, 8, 9, 10, 11, 12, 13, 14, 15, 16, 17, 18] := rfl
@[push_cast] theorem rg20 : List.range 20 = [0, 1, 2, 3, 4, 5, 6, 7, 8, 9, 10, 11, 12, 13, 14, 15, 16, 17, 18, 19] := rfl
@[push_cast] theorem rg21 : List.range 21 = [0, 1, 2, 3, 4, 5, 6, 7, 8, 9, 10, 11, 12, 13, 14, 15, 16, 17, 18, 19, 20] := rfl
@[push_cast] theorem rg22 : List.range 22 = [0, 1, 2, 3, 4, 5, 6, 7, 8, 9, 10, 11, 12, 13, 14, 15, 16, 17, 18, 19, 20, 21] := rfl
@[push_cast] theorem rg23 : List.range 23 = [0, 1, 2, 3, 4, 5, 6, 7, 8, 9, 10, 11, 12, 13, 14, 15, 16, 17, 18, 19, 20, 21, 22] := rfl
@[push_cast] theorem rg24 : List.range 24 = [0, 1, 2, 3, 4, 5, 6, 7, 8, 9, 10, 11, 12, 13, 14, 15, 16, 17, 18, 19, 20, 21, 22, 23] := rfl
@[push_cast] theorem rg25 : List.range 25 = [0, 1, 2, 3, 4, 5, 6, 7, 8, 9, 10, 11, 12, 13, 14, 15, 16, 17, 18, 19, 20, 21, 22, 23, 24] := rfl
@[push_cast] theorem rg26 : List.range 26 = [0, 1, 2, 3, 4, 5, 6, 7, 8, 9, 10, 11, 12, 13, 14, 15, 16, 17, 18, 19, 20, 21, 22, 23, 24, 25] := rfl
@[push_cast] theorem rg27 : List.range 27 = [0, 1, 2, 3, 4, 5, 6, 7, 8, 9, 10, 11, 12, 13, 14, 15, 16, 17, 18, 19, 20, 21, 22, 23, 24, 25, 26] := rfl
@[push_cast] theorem rg28 : List.range 28 = [0, 1, 2, 3, 4, 5, 6, 7, 8, 9, 10, 11, 12, 13, 14, 15, 16, 17, 18, 19, 20, 21, 22, 23, 24, 25, 26, 27] := rfl
@[push_cast] theorem rg29 : List.range 29 = [0, 1, 2, 3, 4, 5, 6, 7, 8, 9, 10, 11, 12, 13, 14, 15, 16, 17, 18, 19, 20, 21, 22, 23, 24, 25, 26, 27, 28] := rfl
@[push_cast] theorem rg30 : List.range 30 = [0, 1, 2, 3, 4, 5, 6, 7, 8, 9, 10, 11, 12, 13, 14, 15, 16, 17, 18, 19, 20, 21, 22, 23, 24, 25, 26, 27, 28, 29] := rfl
@[push_cast] theorem rg31 : List.range 31 = [0, 1, 2, 3, 4, 5, 6, 7, 8, 9, 10, 11, 12, 13, 14, 15, 16, 17, 18, 19, 20, 21, 22, 23, 24, 25, 26, 27, 28, 29, 30] := rfl
@[push_cast] theorem rg32 : List.range 32 = [0, 1, 2, 3, 4, 5, 6, 7, 8, 9, 10, 11, 12, 13, 14, 15, 16, 17, 18, 19, 20, 21, 22, 23, 24, 25, 26, 27, 28, 29, 30, 31] := rfl
@[push_cast] theorem cl2 : callable Tryz.prog 2 = true := by kernel_rfl
@[push_cast] theorem cl3 : callable Tryz.prog 3 = true := by kernel_rfl
@[push_cast] theorem cl4 : callable Tryz.prog 4 = true := by kernel_rfl
@[push_cast] theorem cl5 : callable Tryz.prog 5 = true := by kernel_rfl
@[push_cast] theorem cl6 : callable Tryz.prog 6 = true := by kernel_rfl
@[push_cast] theorem cl7 : callable Tryz.prog 7 = true := by kernel_rfl
@[push_cast] theorem cl8 : callable Tryz.prog 8 = true := by kernel_rfl
@[push_cast] theorem cl9 : callable Tryz.prog 9 = true := by kernel_rfl
@[push_cast] theorem cl10 : callable Tryz.prog 10 = true := by kernel_rfl
@[push_cast] theorem cl11 : callable Tryz.prog 11 = true := by kernel_rfl
@[push_cast] theorem cl12 : callable Tryz.prog 12 = true := by kernel_rfl
@[push_cast] theorem cl13 : callable Tryz.prog 13 = true := by kernel_rfl
@[push_cast] theorem cl14 : callable Tryz.prog 14 = true := by kernel_rfl
@[push_cast] theorem cl15 : callable Tryz.prog 15 = true := by kernel_rfl
@[push_cast] theorem cl16 : callable Tryz.prog 16 = true := by kernel_rfl
@[push_cast] theorem cl17 : callable Tryz.prog 17 = true := by kernel_rfl
@[push_cast] theorem cl18 : callable Tryz.prog 18 = true := by kernel_rfl
@[push_cast] theorem cl19 : callable Tryz.prog 19 = true := by kernel_rfl
@[push_cast] theorem cl20 : callable Tryz.prog 20 = true := by kernel_rfl
@[push_cast] theorem cl21 : callable Tryz.prog 21 = true := by kernel_rfl
@[push_cast] theorem cl22 : callable Tryz.prog 22 = true := by kernel_rfl
@[push_cast] theorem cl23 : callable Tryz.prog 23 = true := by kernel_rfl
@[push_cast] theorem cl24 : callable Tryz.prog 24 = true := by kernel_rfl
@[push_cast] theorem cl25 : callable Tryz.prog 25 = true := by kernel_rfl
@[push_cast] theorem cl26 : callable Tryz.prog 26 = true := by kernel_rfl
@[push_cast] theorem cl27 : callable Tryz.prog 27 = true := by kernel_rfl
@[push_cast] theorem cl28 : callable Tryz.prog 28 = true := by kernel_rfl
@[push_cast] theorem cl29 : callable Tryz.prog 29 = true := by kernel_rfl
@[push_cast] theorem cl30 : callable Tryz.prog 30 = true := by kernel_rfl
@[push_cast] theorem cl31 : callable Tryz.prog 31 = true := by kernel_rfl
@[push_cast] theorem cl32 : callable Tryz.prog 32 = true := by kernel_rfl
@[push_cast] theorem cl33 : callable Tryz.prog 33 = true := by kernel_rfl
@[push_cast] theorem cl34 : callable Tryz.prog 34 = true := by kernel_rfl
@[push_cast] theorem cl35 : callable Tryz.prog 35 = true := by kernel_rfl
@[push_cast] theorem cl36 : callable Tryz.prog 36 = true := by kernel_rfl
@[push_cast] theorem cl37 : callable Tryz.prog 37 = true := by kernel_rfl
@[push_cast] theorem cl38 : callable Tryz.prog 38 = true := by kernel_rfl
@[push_cast] theorem cl39 : callable Tryz.prog 39 = true := by kernel_rfl
@[push_cast] theorem cl40 : callable Tryz.prog 40 = true := by kernel_rfl
@[push_cast] theorem cl41 : callable Tryz.prog 41 = true := by kernel_rfl
@[push_cast] theorem cl42 : callable Tryz.prog 42 = true := by kernel_rfl
@[push_cast] theorem cl43 : callable Tryz.prog 43 = true := by kernel_rfl
@[push_cast] theorem cl44 : callable Tryz.prog 44 = true := by kernel_rfl
@[push_cast] theorem cl45 : callable Tryz.prog 45 = true := by kernel_rfl
@[push_cast] theorem cl46 : callable Tryz.prog 46 = true := by kernel_rfl
@[push_cast] theorem cl47 : callable Tryz.prog 47 = true := by kernel_rfl
@[push_cast] theorem cl48 : callable Tryz.prog 48 = true := by kernel_rfl
@[push_cast] theorem cl49 : callable Tryz.prog 49 = true := by kernel_rfl
@[push_cast] theorem cl50 : callable Tryz.prog 50 = true := by kernel_rfl
@[push_cast] theorem cl51 : callable Tryz.prog 51 = true := by kernel_rfl
@[push_cast] theorem cl52 : callable Tryz.prog 52 = true := by kernel_rfl
@[push_cast] theorem cl53 : callable Tryz.prog 53 = true := by kernel_rfl
@[push_cast] theorem cl54 : callable Tryz.prog 54 = true := by kernel_rfl
@[push_cast] theorem cl55 : callable Tryz.prog 55 = true := by kernel_rfl
@[push_cast] theorem cl56 : callable Tryz.prog 56 = true := by kernel_rfl
@[push_cast] theorem cl57 : callable Tryz.prog 57 = true := by kernel_rfl
@[push_cast] theorem cl58 : callable Tryz.prog 58 = true := by kernel_rfl
@[push_cast] theorem cl59 : callable Tryz.prog 59 = true := by kernel_rfl
@[push_cast] theorem cl60 : callable Tryz.prog 60 = true := by kernel_rfl
@[push_cast] theorem cl61 : callable Tryz.prog 61 = true := by kernel_rfl
@[push_cast] theorem cl62 : callable Tryz.prog 62 = true := by kernel_rfl
@[push_cast] theorem cl63 : callable Tryz.prog 63 = true := by kernel_rfl
@[push_cast] theorem cl64 : callable Tryz.prog 64 = true := by kernel_rfl
@[push_cast] theorem cl65 : callable Tryz.prog 65 = true := by kernel_rfl
@[push_cast] theorem cl66 : callable Tryz.prog 66 = true := by kernel_rfl
@[push_cast] theorem cl67 : callable Tryz.prog 67 = true := by kernel_rfl
@[push_cast] theorem cl68 : callable Tryz.prog 68 = true := by kernel_rfl
@[push_cast] theorem cl69 : callable Tryz.prog 69 = true := by kernel_rfl
@[push_cast] theorem cl70 : callable Tryz.prog 70 = true := by kernel_rfl
@[push_cast] theorem cl71 : callable Tryz.prog 71 = true := by kernel_rfl
@[push_cast] theorem cl72 : callable Tryz.prog 72 = true := by kernel_rfl
@[push_cast] theorem cl73 : callable Tryz.prog 73 = true := by kernel_rfl
@[push_cast] theorem cl74 : callable Tryz.prog 74 = true := by kernel_rfl
@[push_cast] theorem cl75 : callable Tryz.prog 75 = true := by kernel_rfl
@[push_cast] theorem cl76 : callable Tryz.prog 76 = true := by kernel_rfl
@[push_cast] theorem cl77 : callable Tryz.prog 77 = true := by kernel_rfl
@[push_cast] theorem cl78 : callable Tryz.prog 78 = true := by kernel_rfl
@[push_cast] theorem cl79 : callable Tryz.prog 79 = true := by kernel_rfl
@[push_cast] theorem cl80 : callable Tryz.prog 80 = true := by kernel_rfl
@[push_cast] theorem cl81 : callable Tryz.prog 81 = true := by kernel_rfl
@[push_cast] theorem cl82 : callable Tryz.prog 82 = true := by kernel_rfl
@[push_cast] theorem cl83 : callable Tryz.prog 83 = true := by kernel_rfl
@[push_cast] theorem cl84 : callable Tryz.prog 84 = true := by kernel_rfl
@[push_cast] theorem cl85 : callable Tryz.prog 85 = true := by kernel_rfl
@[push_cast] theorem cl86 : callable Tryz.prog 86 = true := by kernel_rfl
@[push_cast] theorem cl87 : callable Tryz.prog 87 = true := by kernel_rfl
@[push_cast] theorem cl88 : callable Tryz.prog 88 = true := by kernel_rfl
@[push_cast] theorem cl89 : callable Tryz.prog 89 = true := by kernel_rfl
@[push_cast] theorem cl90 : callable Tryz.prog 90 = true := by kernel_rfl
@[push_cast] theorem cl91 : callable Tryz.prog 91 = true := by kernel_rfl
@[push_cast] theorem cl92 : callable Tryz.prog 92 = true := by kernel_rfl
@[push_cast] theorem cl93 : callable Tryz.prog 93 = true := by kernel_rfl
@[push_cast] theorem cl94 : callable Tryz.prog 94 = true := by kernel_rfl
@[push_cast] theorem cl95 : callable Tryz.prog 95 = true := by kernel_rfl
@[push_cast] theorem cl96 : callable Tryz.prog 96 = true := by kernel_rfl
@[push_cast] theorem cl97 : callable Tryz.prog 97 = true := by kernel_rfl
@[push_cast] theorem cl98 : callable Tryz.prog 98 = true := by kernel_rfl
@[push_cast] theorem cl99 : callable Tryz.prog 99 = true := by kernel_rfl
@[push_cast] theorem cl100 : callable Tryz.prog 100 = true := by kernel_rfl
@[push_cast] theorem cl101 : callable Tryz.prog 101 = true := by kernel_rfl
@[push_cast] theorem cl102 : callable Tryz.prog 102 = true := by kernel_rfl
@[push_cast] theorem cl103 : callable Tryz.prog 103 = true := by kernel_rfl
@[push_cast] theorem cl104 : callable Tryz.prog 104 = true := by kernel_rfl
@[push_cast] theorem cl105 : callable Tryz.prog 105 = true := by kernel_rfl
@[push_cast] theorem cl106 : callable Tryz.prog 106 = true := by kernel_rfl
@[push_cast] theorem cl107 : callable Tryz.prog 107 = true := by kernel_rfl
@[push_cast] theorem cl108 : callable Tryz.prog 108 = true := by kernel_rfl
@[push_cast] theorem cl109 : callable Tryz.prog 109 = true := by kernel_rfl
@[push_cast] theorem cl113 : callable Tryz.prog 113 = true := by kernel_rfl
@[push_cast] theorem cl114 : callable Tryz.prog 114 = true := by kernel_rfl
@[push_cast] theorem cl115 : callable Tryz.prog 115 = true := by kernel_rfl
@[push_cast] theorem cl116 : callable Tryz.prog 116 = true := by kernel_rfl
@[push_cast] theorem cl117 : callable Tryz.prog 117 = true := by kernel_rfl
@[push_cast] theorem cl118 : callable Tryz.prog 118 = true := by kernel_rfl
@[push_cast] theorem cl119 : callable Tryz.prog 119 = true := by kernel_rfl
@[push_cast] theorem cl120 : callable Tryz.prog 120 = true := by kernel_rfl
@[push_cast] theorem cl121 : callable Tryz.prog 121 = true := by kernel_rfl
@[push_cast] theorem cl122 : callable Tryz.prog 122 = true := by kernel_rfl
@[push_cast] theorem cl123 : callable Tryz.prog 123 = true := by kernel_rfl
@[push_cast] theorem cl127 : callable Tryz.prog 127 = true := by kernel_rfl
@[push_cast] theorem cl128 : callable Tryz.prog 128 = true := by kernel_rfl
@[push_cast] theorem cl129 : callable Tryz.prog 129 = true := by kernel_rfl
@[push_cast] theorem cl130 : callable Tryz.prog 130 = true := by kernel_rfl
@[push_cast] theorem cl131 : callable Tryz.prog 131 = true := by kernel_rfl
@[push_cast] theorem cl132 : callable Tryz.prog 132 = true := by kernel_rfl
@[push_cast] theorem cl133 : callable Tryz.prog 133 = true := by kernel_rfl
@[push_cast] theorem cl153 : callable Tryz.prog 153 = true := by kernel_rfl
@[push_cast] theorem cl176 : callable Tryz.prog 176 = true := by kernel_rfl
attribute [push_cast] Tryz.ntmps2 Tryz.results2 Tryz.ntmps3 Tryz.results3 Tryz.ntmps4 Tryz.results4 Tryz.ntmps5 Tryz.results5 Tryz.ntmps6 Tryz.results6 Tryz.ntmps7 Tryz.results7 Tryz.ntmps8 Tryz.results8 Tryz.ntmps9 Tryz.results9 Tryz.ntmps10 Tryz.results10 Tryz.ntmps11 Tryz.results11 Tryz.ntmps12 Tryz.results12 Tryz.ntmps13 Tryz.results13 Tryz.ntmps14 Tryz.results14 Tryz.ntmps15 Tryz.results15 Tryz.ntmps16 Tryz.results16 Tryz.ntmps17 Tryz.results17 Tryz.ntmps18 Tryz.results18 Tryz.ntmps19 Tryz.results19 Tryz.ntmps20 Tryz.results20 Tryz.ntmps21 Tryz.results21 Tryz.ntmps22 Tryz.results22 Tryz.ntmps23 Tryz.results23 Tryz.ntmps24 Tryz.results24 Tryz.ntmps25 Tryz.results25 Tryz.ntmps26 Tryz.results26 Tryz.ntmps27 Tryz.results27 Tryz.ntmps28 Tryz.results28 Tryz.ntmps29 Tryz.results29 Tryz.ntmps30 Tryz.results30 Tryz.ntmps31 Tryz.results31 Tryz.ntmps32 Tryz.results32 Tryz.ntmps33 Tryz.results33 Tryz.ntmps34 Tryz.results34 Tryz.ntmps35 Tryz.results35 Tryz.ntmps36 Tryz.results36 Tryz.ntmps37 Tryz.results37 Tryz.ntmps38 Tryz.results38 Tryz.ntmps39 Tryz.results39 Tryz.ntmps40 Tryz.results40 Tryz.ntmps41 Tryz.results41 Tryz.ntmps42 Tryz.results42 Tryz.ntmps43 Tryz.results43 Tryz.ntmps44 Tryz.results44 Tryz.ntmps45 Tryz.results45 Tryz.ntmps46 Tryz.results46 Tryz.ntmps47 Tryz.results47 Tryz.ntmps48 Tryz.results48 Tryz.ntmps49 Tryz.results49 Tryz.ntmps50 Tryz.results50 Tryz.ntmps51 Tryz.results51 Tryz.ntmps52 Tryz.results52 Tryz.ntmps53 Tryz.results53 Tryz.ntmps54 Tryz.results54 Tryz.ntmps55 Tryz.results55 Tryz.ntmps56 Tryz.results56 Tryz.ntmps57 Tryz.results57 Tryz.ntmps58 Tryz.results58 Tryz.ntmps59 Tryz.results59 Tryz.ntmps60 Tryz.results60 Tryz.ntmps61 Tryz.results61 Tryz.ntmps62 Tryz.results62 Tryz.ntmps63 Tryz.results63 Tryz.ntmps64 Tryz.results64 Tryz.ntmps65 Tryz.results65 Tryz.ntmps66 Tryz.results66 Tryz.ntmps67 Tryz.results67 Tryz.ntmps68 Tryz.results68 Tryz.ntmps69 Tryz.results69 Tryz.ntmps70 Tryz.results70 Tryz.ntmps71 Tryz.results71 Tryz.ntmps72 Tryz.results72 Tryz.ntmps73 Tryz.results73 Tryz.ntmps74 Tryz.results74 Tryz.ntmps75 Tryz.results75 Tryz.ntmps76 Tryz.results76 Tryz.ntmps77 Tryz.results77 Tryz.ntmps78 Tryz.results78 Tryz.ntmps79 Tryz.results79 Tryz.ntmps80 Tryz.results80 Tryz.ntmps81 Tryz.results81 Tryz.ntmps82 Tryz.results82 Tryz.ntmps83 Tryz.results83 Tryz.ntmps84 Tryz.results84 Tryz.ntmps85 Tryz.results85 Tryz.ntmps86 Tryz.results86 Tryz.ntmps87 Tryz.results87 Tryz.ntmps88 Tryz.results88 Tryz.ntmps89 Tryz.results89 Tryz.ntmps90 Tryz.results90 Tryz.ntmps91 Tryz.results91 Tryz.ntmps92 Tryz.results92 Tryz.ntmps93 Tryz.results93 Tryz.ntmps94 Tryz.results94 Tryz.ntmps95 Tryz.results95 Tryz.ntmps96 Tryz.results96 Tryz.ntmps97 Tryz.results97 Tryz.ntmps98 Tryz.results98 Tryz.ntmps99 Tryz.results99 Tryz.ntmps100 Tryz.results100 Tryz.ntmps101 Tryz.results101 Tryz.ntmps102 Tryz.results102 Tryz.ntmps103 Tryz.results103 Tryz.ntmps104 Tryz.results104 Tryz.ntmps105 Tryz.results105 Tryz.ntmps106 Tryz.results106 Tryz.ntmps107 Tryz.results107 Tryz.ntmps108 Tryz.results108 Tryz.ntmps109 Tryz.results109 Tryz.ntmps113 Tryz.results113 Tryz.ntmps114 Tryz.results114 Tryz.ntmps115 Tryz.results115 Tryz.ntmps116 Tryz.results116 Tryz.ntmps117 Tryz.results117 Tryz.ntmps118 Tryz.results118 Tryz.ntmps119 Tryz.results119 Tryz.ntmps120 Tryz.results120 Tryz.ntmps121 Tryz.results121 Tryz.ntmps122 Tryz.results122 Tryz.ntmps123 Tryz.results123 Tryz.ntmps127 Tryz.results127 Tryz.ntmps128 Tryz.results128 Tryz.ntmps129 Tryz.results129 Tryz.ntmps130 Tryz.results130 Tryz.ntmps131 Tryz.results131 Tryz.ntmps132 Tryz.results132 Tryz.ntmps133 Tryz.results133 Tryz.ntmps153 Tryz.results153 Tryz.ntmps176 Tryz.results176
end Go.Proofs.YtldoehmlpdpiaaaGreatDoor.Facts
set_option linter.unusedVariables false
set_option linter.unusedSimpArgs false
namespace Go.Abs
def gapN (n : Nat) : Nat := (4 - n % 4) % 4
def upN (n : Nat) : Nat := n + gapN n
theorem gap_val (n : Nat) (h : n < 2 ^ 62) : bitsV .and .i64 (IntKind.i64.wrap (0 - N n)) 3 = N (gapN n) := by
  unfold N
  have hw : IntKind.i64.wrap (0 - (n : Int)) = -(n : Int) := by rw [IntKind.wrap_i64]; omega
  rw [hw]
  have h3 : BitVec.ofInt 64 3 = 3#64 := rfl
  have hx : (BitVec.ofInt 64 (-(n : Int)) &&& 3#64).toNat = gapN n := by
    rw [BitVec.toNat_and]
    have : (3#64).toNat = 2 ^ 2 - 1 := rfl
    rw [this, Nat.and_two_pow_sub_one_eq_mod, BitVec.toNat_ofInt]
    unfold gapN
    omega
  show IntKind.i64.wrap ((BitVec.ofInt 64 (-(n : Int)) &&& BitVec.ofInt 64 3).toNat : Nat) = _
  rw [h3, hx, IntKind.wrap_i64]
  unfold gapN
  omega
theorem w64 {a : Int} (h0 : -2 ^ 63 ≤ a) (h : a < 2 ^ 63) : IntKind.i64.wrap a = a := by rw [IntKind.wrap_i64]; omega
theorem gapN_le (n : Nat) : gapN n ≤ 3 := by unfold gapN; omega
abbrev nat (n : Nat) : AV := .val (.int .i64 (N n))
attribute [push_cast] nat
def sumUp (s : Nat) : List Nat → Nat
  | [] => s
  | n :: l => sumUp (upN s + n) l
theorem le_sumUp : ∀ (l : List Nat) (s : Nat), s ≤ sumUp s l
  | [], s => Nat.le_refl s
  | n :: l, s => by have := le_sumUp l (upN s + n); simp only [sumUp, upN] at *; omega
theorem sumUp_append (n : Nat) : ∀ (l : List Nat) (s : Nat), sumUp s (l ++ [n]) = upN (sumUp s l) + n
  | [], s => rfl
  | m :: l, s => sumUp_append n l _
theorem sumUp_take : ∀ (l : List Nat) (i : Nat) {s : Nat}, sumUp s (l.take i) ≤ sumUp s l
  | [], i, s => by simp
  | n :: l, 0, s => by simpa [sumUp] using le_sumUp (n :: l) s
  | n :: l, i + 1, s => by simp only [List.take_succ_cons, sumUp]; exact sumUp_take l i
def nats (l : List Nat) : List AV := l.map nat
@[push_cast] theorem nats_hand (ids : List Nat) (l : List Nat) : AV.handL ids (nats l) = nats l := by
  rw [AV.handL_map]; simp [nats, AV.hand]
@[push_cast] theorem nats_len (l : List Nat) : (nats l).length = l.length := by simp [nats]
theorem nats_get (l : List Nat) (i : Nat) : (nats l)[i]? = l[i]?.map nat := by simp [nats]
@[push_cast] theorem nats_pl (l : List Nat) : AV.plL (nats l) = true := by
  rw [AV.plL_iff]; intro x hx; simp only [nats, List.mem_map] at hx; obtain ⟨b, _, rfl⟩ := hx; rfl
@[push_cast] theorem nats_ids (p : Nat → Bool) (l : List Nat) : AV.idsOkL p (nats l) = true := by
  rw [AV.idsOkL_iff]; intro x hx; simp only [nats, List.mem_map] at hx; obtain ⟨b, _, rfl⟩ := hx; rfl
end Go.Abs
namespace Go.Proofs.YtldoehmlpdpiaaaGreatDoor.C
open Go.Abs
theorem pad_gap (n : Nat) (h : n < 2 ^ 62) : PC Tryz.prog 118 [nat n] (nat (gapN n)) := by
  refine PC.of_bodyW (by simp only [push_cast]) Tryz.func118 rfl (by rw [Tryz.ntmps118]; simp) ?_
  refine AWp.regionW ?_
  refine AWp.regionW ?_
  refine AWp.ret ?_
  try simp only [thenQ, blockQ, noGo]
  refine bodyQ.m ?_
  rw [gap_val n h]
  first | done | exact Hand.go
theorem pad_up (n : Nat) (h : n < 2 ^ 62) : PC Tryz.prog 130 [nat n] (nat (upN n)) := by
  have hg := gapN_le n
  refine PC.of_bodyW (by simp only [push_cast]) Tryz.func130 rfl (by rw [Tryz.ntmps130]; simp) ?_
  refine AWp.regionW ?_
  refine AWp.regionM fun K1 hK1 => ?_
  refine ARun2.callM (pad_gap n h) ?_
  refine ARun2.endm (hK1 _ ?_)
  refine AWp.ret ?_
  try simp only [thenQ, blockQ, noGo]
  refine bodyQ.m ?_
  clear hK1 K1
  rw [upN]
  first | done | exact Hand.go
theorem pad_sizes1 (m n : Nat) (h : m < 2 ^ 61) (h2 : n < 2 ^ 61) : OC Tryz.prog 129 [nat n, .ptr 0 0] [.box 3 [nat m]] (.tup []) [.box 3 [nat (upN m + n)]] := by
  have hg := gapN_le m
  have hu : upN m < 2 ^ 62 := by unfold upN; omega
  refine OC.of_body [0] (by intro k hk; simp at hk; subst hk; rfl) Tryz.func129 rfl (by rw [Tryz.ntmps129]; simp) ?_
  refine AWp.regionN fun K1 hK1 => ?_
  refine ARun2.callM (pad_up m (by omega)) ?_
  refine ARun2.endm (hK1 _ ?_)
  try simp only [thenQ, blockQ, noGo]
  refine bodyQ.n ?_
  clear hK1 K1
  refine endO.m ?_ ?_
  · rfl
  · skip
    first | done | exact Hand.go
theorem pad_sizes (l : List Nat) (h : sumUp 0 l < 2 ^ 61) (hl : l.length < 2 ^ 61) : PC Tryz.prog 119 [.sl false 1 (nats l)] (nat (sumUp 0 l)) := by
  refine PC.of_bodyW (by simp only [push_cast]) Tryz.func119 rfl (by rw [Tryz.ntmps119]; simp) ?_
  refine AWp.regionW ?_
  refine AWp.regionW ?_
  refine AWp.regionW ?_
  refine AWp.seqK fun K1 hK1 => ?_
  refine AWp.regionW ?_
  refine AWp.block ?_
  refine AWp.loopK [3, 4, 8, 9] (fun (i : Nat) => [(10, nat i)]) (fun i => [.box 3 [nat (sumUp 0 (l.take i))]]) (fun i => i ≤ l.length) (fun i => l.length - i) (0) ?_ (Nat.zero_le _) ?_
  · skip
    refine Le.m 1 ?_ ?_
    · exact Go.Abs.evM
    · exact Go.Abs.evN
  · intro i hi K2 hK2
    refine AWp.regionW ?_
    refine AWp.seqK fun K3 hK3 => ?_
    refine AWp.condLM (fun c0 => ?_) (fun c0 => ?_)
    · skip
      have hil : i < l.length := by simpa using c0
      have hs : sumUp 0 (l.take (i + 1)) = upN (sumUp 0 (l.take i)) + l[i] := by rw [List.take_succ_eq_append_getElem hil, sumUp_append]
      have hle : sumUp 0 (l.take (i + 1)) ≤ sumUp 0 l := sumUp_take l (i + 1)
      refine AWp.skip ?_
      refine hK3 _ ?_
      refine AWp.seqK fun K4 hK4 => ?_
      refine AWp.block ?_
      refine AWp.regionM fun K5 hK5 => ?_
      refine ARun2.indexM (i) (nat l[i]) ?_ ?_
      · rw [nats_get, List.getElem?_eq_getElem hil]; rfl
      refine ARun2.endm (hK5 _ ?_)
      refine AWp.regionN fun K6 hK6 => ?_
      refine ARun2.callOM [0] (pad_sizes1 (sumUp 0 (l.take i)) l[i] (by simp only [upN] at hs; omega) (by omega)) ?_
      refine ARun2.endm (hK6 _ ?_)
      refine hK4 _ ?_
      refine AWp.regionV ?_
      refine hK2 _ (i + 1) (by omega) (by omega) ?_
      refine Le.m 1 ?_ ?_
      · try simp only [push_cast, ↓reduceIte, Nat.reduceEqDiff, Nat.reduceLT, Nat.reduceAdd, Nat.reduceSub, Nat.reduceMul, Nat.reduceLeDiff, Nat.reducePow, Int.reduceLT, Int.reduceToNat, reduceCtorEq, Int.reduceNeg, Int.reduceEq, Nat.reduceBEq, Nat.reduceBNe, Int.reduceBEq, Int.reduceBNe, String.reduceEq]
        try simp (disch := omega) only [w_nat, w_add, w_addl, w_addr, w_sub, w_subl, w_mul, w_mull, w_mulr, w_u32, w_u16, w_u8, w_u32a, N_zero]
        first | done | skip
        rw [hs]
      · exact Go.Abs.evN
    · skip
      have hie : i = l.length := by simp at c0; omega
      subst hie
      refine AWp.exit ?_
      try simp only [thenQ, blockQ, noGo, reduceIte, Nat.reduceEqDiff]
      refine hK1 _ ?_
      refine AWp.regionW ?_
      refine AWp.ret ?_
      try simp only [thenQ, blockQ, noGo]
      refine bodyQ.m ?_
      clear hK3 K3 hK2 K2 hK1 K1
      rw [List.take_length]
      first | done | exact Hand.go
theorem wire_right (k : Nat) : PC Tryz.prog 88 [nat k] (.val (.bool (k == 1 || k == 2 || k == 4))) := by
  refine PC.of_bodyW (by simp only [push_cast]) Tryz.func88 rfl (by rw [Tryz.ntmps88]; simp) ?_
  refine AWp.regionW ?_
  refine AWp.regionA fun K1 hK1 => ?_
  refine ARun.segm 3 fun KS hKS => ?_
  refine ARun2.endm (hKS _ ?_); clear hKS KS
  apply ARun.grpM 2 2 false 7 [0, 5]
  · intro g2 KG hKG
    refine ARun2.gom ?_
    exact ARun2.endm (hKG _ Le.grpM)
  refine ARun.segm 2 fun KS hKS => ?_
  refine ARun2.endm (hKS _ ?_); clear hKS KS
  apply ARun.grpM 2 6 false 11 [9]
  · intro g6 KG hKG
    refine ARun2.gom ?_
    exact ARun2.endm (hKG _ Le.grpM)
  refine ARun2.gom ?_
  refine ARun2.endm (hK1 _ ?_)
  refine AWp.ret ?_
  try simp only [thenQ, blockQ, noGo]
  refine bodyQ.m ?_
  clear hK1 K1
  simp only [Bool.or_assoc]
  first | done | exact Hand.go
def putB (k : Nat) (x : Nat) : List UInt8 := (List.range k).reverse.map fun i => UInt8.ofNat (x / 256 ^ i)
theorem putB_len (k x : Nat) : (putB k x).length = k := by simp [putB]
theorem putB_take (k x j : Nat) (hj : j < k) : (putB k x).take (k - j) = (putB k x).take (k - (j + 1)) ++ [UInt8.ofNat (x / 256 ^ j)] := by
  have hlt : k - (j + 1) < (putB k x).length := by rw [putB_len]; omega
  rw [show k - j = (k - (j + 1)) + 1 by omega, List.take_succ_eq_append_getElem hlt]
  congr 2
  simp only [putB, List.getElem_map, List.getElem_reverse, List.getElem_range, List.length_range]
  rw [show k - 1 - (k - (j + 1)) = j by omega]
theorem put_byte (x j : Nat) (hj : j < 4) : IntKind.u8.wrap ((N x).fdiv (2 ^ min (8 * j) IntKind.u32.bits)) = N (UInt8.ofNat (x / 256 ^ j)).toNat := by
  have h2 : IntKind.u32.bits = 32 := rfl
  unfold N
  rw [h2, Nat.min_eq_left (by omega), IntKind.wrap_u8]
  have h3 : (2 : Int) ^ (8 * j) = ((256 ^ j : Nat) : Int) := by
    rw [show (256 : Nat) = 2 ^ 8 from rfl, ← Nat.pow_mul]
    simp
  rw [h3]
  have h4 : (x : Int).fdiv ((256 ^ j : Nat) : Int) = ((x / 256 ^ j : Nat) : Int) := by
    rw [Int.fdiv_eq_ediv_of_nonneg _ (Int.natCast_nonneg _)]; rfl
  rw [h4]
  simp [UInt8.toNat_ofNat']
theorem flat_len2 (k : Nat) (l : List Nat) : (l.flatMap (putB k)).length = l.length * k := by
  induction l with
  | nil => simp
  | cons x l ih => rw [List.flatMap_cons, List.length_append, putB_len, ih, List.length_cons, Nat.add_mul]; omega
theorem bys_snoc (l : List UInt8) (b : UInt8) : bys l ++ [.val (.int .u8 (N b.toNat))] = bys (l ++ [b]) := by simp [bys]
abbrev u32 (n : Nat) : AV := .val (.int .u32 (N n))
attribute [push_cast] u32
def u32s (l : List Nat) : List AV := l.map u32
@[push_cast] theorem u32s_hand (ids : List Nat) (l : List Nat) : AV.handL ids (u32s l) = u32s l := by
  rw [AV.handL_map]; simp [u32s, AV.hand]
@[push_cast] theorem u32s_len (l : List Nat) : (u32s l).length = l.length := by simp [u32s]
theorem u32s_get (l : List Nat) (i : Nat) : (u32s l)[i]? = l[i]?.map u32 := by simp [u32s]
@[push_cast] theorem u32s_pl (l : List Nat) : AV.plL (u32s l) = true := by
  rw [AV.plL_iff]; intro x hx; simp only [u32s, List.mem_map] at hx; obtain ⟨b, _, rfl⟩ := hx; rfl
@[push_cast] theorem u32s_ids (p : Nat → Bool) (l : List Nat) : AV.idsOkL p (u32s l) = true := by
  rw [AV.idsOkL_iff]; intro x hx; simp only [u32s, List.mem_map] at hx; obtain ⟨b, _, rfl⟩ := hx; rfl
theorem N_pred (j : Nat) : N (j + 1) - 1 = N j := by unfold N; omega
theorem N_pred0 (k : Nat) (h : 1 ≤ k) : N (k - 1) = N k - 1 := by unfold N; omega
theorem N_ge (j : Nat) : (0 ≤ N j - 1) = (1 ≤ j) := by rw [eq_iff_iff]; unfold N; omega
theorem wire_put (k : Nat) (l : List Nat) (hk : k = 1 ∨ k = 2 ∨ k = 4) (hl : ∀ x ∈ l, x < 2 ^ 32) (hn : l.length ≤ 2 ^ 30) :
    PC Tryz.prog 58 [nat k, .sl false 1 (u32s l)] (.sl true 1 (bys (l.flatMap (putB k)))) := by
  have hr : (k == 1 || k == 2 || k == 4) = true := by rcases hk with rfl | rfl | rfl <;> rfl
  refine PC.of_body (by simp only [push_cast]) Tryz.func58 rfl (by rw [Tryz.ntmps58]; simp) ?_
  refine AWp.regionW ?_
  refine AWp.seqK fun K1 hK1 => ?_
  refine AWp.regionM fun K2 hK2 => ?_
  refine ARun2.callM (wire_right k) ?_
  refine ARun2.endm (hK2 _ ?_)
  refine AWp.condF ?_ (by simp only [push_cast, ↓reduceIte, Nat.reduceEqDiff, Nat.reduceLT, Nat.reduceAdd, Nat.reduceSub, Nat.reduceMul, Nat.reduceLeDiff, Nat.reducePow, Int.reduceLT, Int.reduceToNat, reduceCtorEq, Int.reduceNeg, Int.reduceEq, Nat.reduceBEq, Nat.reduceBNe, Int.reduceBEq, Int.reduceBNe, String.reduceEq, hr])
  refine AWp.skip ?_
  refine hK1 _ ?_
  refine AWp.regionW ?_
  refine AWp.seqK fun K3 hK3 => ?_
  refine AWp.regionW ?_
  refine AWp.block ?_
  -- SLOTS THAT TURN AND ARE NOT TOLD: [5]
  refine AWp.nilOwn 5 5 1 (by simp only [push_cast, ↓reduceIte, Nat.reduceEqDiff, Nat.reduceLT, Nat.reduceAdd, Nat.reduceSub, Nat.reduceMul, Nat.reduceLeDiff, Nat.reducePow, Int.reduceLT, Int.reduceToNat, reduceCtorEq, Int.reduceNeg, Int.reduceEq, Nat.reduceBEq, Nat.reduceBNe, Int.reduceBEq, Int.reduceBNe, String.reduceEq]) ?_
  simp only [push_cast, ↓reduceIte, Nat.reduceEqDiff, Nat.reduceLT, Nat.reduceAdd, Nat.reduceSub, Nat.reduceMul, Nat.reduceLeDiff, Nat.reducePow, Int.reduceLT, Int.reduceToNat, reduceCtorEq, Int.reduceNeg, Int.reduceEq, Nat.reduceBEq, Nat.reduceBNe, Int.reduceBEq, Int.reduceBNe, String.reduceEq]
  refine AWp.loopK [0, 5, 12, 13] (fun (i : Nat) => [(14, nat i)]) (fun i => [.row 5 1 (bys ((l.take i).flatMap (putB k)))]) (fun i => i ≤ l.length) (fun i => l.length - i) (0) ?_ (Nat.zero_le _) ?_
  · skip
    refine Le.m 1 ?_ ?_
    · exact Go.Abs.evM
    · exact Go.Abs.evN
  · intro i hi K4 hK4
    refine AWp.regionW ?_
    refine AWp.seqK fun K5 hK5 => ?_
    refine AWp.condLM (fun c1 => ?_) (fun c1 => ?_)
    · skip
      have hil : i < l.length := by simpa using c1
      have hx32 := hl l[i] (List.getElem_mem hil)
      generalize hxe : l[i] = x at hx32
      refine AWp.skip ?_
      refine hK5 _ ?_
      refine AWp.seqK fun K6 hK6 => ?_
      refine AWp.block ?_
      refine AWp.regionM fun K7 hK7 => ?_
      refine ARun2.indexM (i) (u32 x) ?_ ?_
      · rw [u32s_get, List.getElem?_eq_getElem hil, hxe]; rfl
      refine ARun2.endm (hK7 _ ?_)
      refine AWp.regionW ?_
      refine AWp.block ?_
      -- SLOTS THAT TURN AND ARE NOT TOLD: [5]
      refine AWp.loopK [0, 5, 7, 12, 13, 14] (fun (j : Nat) => [(8, .val (.int .i64 (N j - 1)))]) (fun j => [.row 5 1 (bys ((l.take i).flatMap (putB k) ++ (putB k x).take (k - j)))]) (fun j => j ≤ k) (fun j => j) (k) ?_ (Nat.le_refl _) ?_
      · skip
        refine Le.m 1 ?_ ?_
        · try simp only [push_cast, ↓reduceIte, Nat.reduceEqDiff, Nat.reduceLT, Nat.reduceAdd, Nat.reduceSub, Nat.reduceMul, Nat.reduceLeDiff, Nat.reducePow, Int.reduceLT, Int.reduceToNat, reduceCtorEq, Int.reduceNeg, Int.reduceEq, Nat.reduceBEq, Nat.reduceBNe, Int.reduceBEq, Int.reduceBNe, String.reduceEq]
          try simp (disch := omega) only [w_nat, w_add, w_addl, w_addr, w_sub, w_subl, w_mul, w_mull, w_mulr, w_u32, w_u16, w_u8, w_u32a, N_zero]
          first | done | skip
          simp
        · simp only [push_cast, ↓reduceIte, Nat.reduceEqDiff, Nat.reduceLT, Nat.reduceAdd, Nat.reduceSub, Nat.reduceMul, Nat.reduceLeDiff, Nat.reducePow, Int.reduceLT, Int.reduceToNat, reduceCtorEq, Int.reduceNeg, Int.reduceEq, Nat.reduceBEq, Nat.reduceBNe, Int.reduceBEq, Int.reduceBNe, String.reduceEq]
          try simp (disch := omega) only [w_nat, w_add, w_addl, w_addr, w_sub, w_subl, w_mul, w_mull, w_mulr, w_u32, w_u16, w_u8, w_u32a, N_zero]
          simp only [N_pred0 k (by omega)]
      · intro j hj K8 hK8
        refine AWp.seqK fun K9 hK9 => ?_
        refine AWp.regionW ?_
        refine AWp.condLM (fun c2 => ?_) (fun c2 => ?_)
        · skip
          have hj1 : 1 ≤ j := by have h := of_decide_eq_true c2; rwa [N_ge] at h
          obtain ⟨j, rfl⟩ : ∃ j', j = j' + 1 := ⟨j - 1, by omega⟩
          simp only [N_pred]
          refine AWp.skip ?_
          refine hK9 _ ?_
          refine AWp.seqK fun K10 hK10 => ?_
          refine AWp.block ?_
          refine AWp.regionN fun K11 hK11 => ?_
          rw [put_byte x j (by omega)]
          have hlen : ((l.take i).flatMap (putB k) ++ (putB k x).take (k - (j + 1))).length ≤ 2 ^ 33 := by
            rw [List.length_append, flat_len2, List.length_take, List.length_take, putB_len]
            have : min i l.length * k ≤ 2 ^ 30 * 4 := Nat.mul_le_mul (by omega) (by omega)
            omega
          refine ARun2.appendM ?_ ?_ ?_
          · rw [YtldoehmlpdpiaaaGreatDoor.Facts.eb40, bys_len, List.length_cons, List.length_nil]; omega
          · rw [bys_len, List.length_cons, List.length_nil]; omega
          refine ARun2.endm (hK11 _ ?_)
          refine hK10 _ ?_
          refine AWp.regionV ?_
          refine hK8 _ (j) (by omega) (by omega) ?_
          refine Le.m 1 ?_ ?_
          · try simp only [push_cast, ↓reduceIte, Nat.reduceEqDiff, Nat.reduceLT, Nat.reduceAdd, Nat.reduceSub, Nat.reduceMul, Nat.reduceLeDiff, Nat.reducePow, Int.reduceLT, Int.reduceToNat, reduceCtorEq, Int.reduceNeg, Int.reduceEq, Nat.reduceBEq, Nat.reduceBNe, Int.reduceBEq, Int.reduceBNe, String.reduceEq]
            try simp (disch := omega) only [w_nat, w_add, w_addl, w_addr, w_sub, w_subl, w_mul, w_mull, w_mulr, w_u32, w_u16, w_u8, w_u32a, N_zero]
            first | done | skip
            rw [putB_take k x j (by omega), ← List.append_assoc, ← bys_snoc]
          · simp only [push_cast, ↓reduceIte, Nat.reduceEqDiff, Nat.reduceLT, Nat.reduceAdd, Nat.reduceSub, Nat.reduceMul, Nat.reduceLeDiff, Nat.reducePow, Int.reduceLT, Int.reduceToNat, reduceCtorEq, Int.reduceNeg, Int.reduceEq, Nat.reduceBEq, Nat.reduceBNe, Int.reduceBEq, Int.reduceBNe, String.reduceEq]
            try simp (disch := omega) only [w_nat, w_add, w_addl, w_addr, w_sub, w_subl, w_mul, w_mull, w_mulr, w_u32, w_u16, w_u8, w_u32a, N_zero]
            rw [show IntKind.i64.wrap (N j - 1) = N j - 1 from w64 (by unfold N; omega) (by unfold N; omega)]
        · skip
          have hj0 : j = 0 := by have h := of_decide_eq_false c2; rw [N_ge] at h; omega
          subst hj0
          refine AWp.exit ?_
          try simp only [thenQ, blockQ, noGo, reduceIte, Nat.reduceEqDiff]
          refine hK6 _ ?_
          refine AWp.regionV ?_
          refine hK4 _ (i + 1) (by omega) (by omega) ?_
          refine Le.m 1 ?_ ?_
          · try simp only [push_cast, ↓reduceIte, Nat.reduceEqDiff, Nat.reduceLT, Nat.reduceAdd, Nat.reduceSub, Nat.reduceMul, Nat.reduceLeDiff, Nat.reducePow, Int.reduceLT, Int.reduceToNat, reduceCtorEq, Int.reduceNeg, Int.reduceEq, Nat.reduceBEq, Nat.reduceBNe, Int.reduceBEq, Int.reduceBNe, String.reduceEq]
            try simp (disch := omega) only [w_nat, w_add, w_addl, w_addr, w_sub, w_subl, w_mul, w_mull, w_mulr, w_u32, w_u16, w_u8, w_u32a, N_zero]
            first | done | skip
            have hfull : (putB k x).take k = putB k x := List.take_of_length_le (by rw [putB_len]; exact Nat.le_refl _)
            rw [List.take_succ_eq_append_getElem hil, List.flatMap_append, hxe, Nat.sub_zero, hfull]; simp
          · exact Go.Abs.evN
    · skip
      have hil : i = l.length := by simp at c1; omega
      subst hil
      refine AWp.exit ?_
      try simp only [thenQ, blockQ, noGo, reduceIte, Nat.reduceEqDiff]
      refine hK3 _ ?_
      refine AWp.regionW ?_
      refine AWp.pub 0 rfl (Nat.le_refl _) ?_
      simp only [push_cast, ↓reduceIte, Nat.reduceEqDiff, Nat.reduceLT, Nat.reduceAdd, Nat.reduceSub, Nat.reduceMul, Nat.reduceLeDiff, Nat.reducePow, Int.reduceLT, Int.reduceToNat, reduceCtorEq, Int.reduceNeg, Int.reduceEq, Nat.reduceBEq, Nat.reduceBNe, Int.reduceBEq, Int.reduceBNe, String.reduceEq]
      rw [List.take_length]
      refine AWp.ret ?_
      try simp only [thenQ, blockQ, noGo]
      refine bodyQ.m ?_
      clear hK5 K5 hK4 K4 hK3 K3 hK2 K2 hK1 K1
      rfl
def cdiv (n k : Nat) : Nat := (n + k - 1) / k
def chunks (k : Nat) (l : List UInt8) : List (List UInt8) := (List.range (cdiv l.length k)).map fun i => (l.drop (i * k)).take k
def chunkYs (k : Nat) (l : List UInt8) : List (List AV) := (chunks k l).map fun c => [.sl false 1 (bys c)]
theorem cdiv_lt {n k i : Nat} (hk : 0 < k) : i < cdiv n k ↔ i * k < n := by
  unfold cdiv
  rw [Nat.lt_div_iff_mul_lt hk]
  constructor <;> intro h <;> omega
theorem chunk_eq (k : Nat) (l : List UInt8) (i : Nat) : (l.take (i * k + min k (l.length - i * k))).drop (i * k) = (l.drop (i * k)).take k := by
  rw [List.drop_take, Nat.add_sub_cancel_left, ← List.length_drop]
  rcases Nat.le_total k (l.drop (i * k)).length with h | h
  · rw [Nat.min_eq_left h]
  · rw [Nat.min_eq_right h, List.take_of_length_le (Nat.le_refl _), List.take_of_length_le h]
theorem chunkYs_get {k : Nat} {l : List UInt8} {i : Nat} (h : i < cdiv l.length k) : (chunkYs k l)[i]? = some [.sl false 1 (bys ((l.drop (i * k)).take k))] := by
  simp [chunkYs, chunks, h]
theorem chunkYs_split {k : Nat} {l : List UInt8} {i : Nat} (h : i < cdiv l.length k) : chunkYs k l = (chunkYs k l).take i ++ [.sl false 1 (bys ((l.drop (i * k)).take k))] :: (chunkYs k l).drop (i + 1) := by
  obtain ⟨h1, h2⟩ := List.getElem?_eq_some_iff.1 (chunkYs_get h)
  rw [← h2, ← List.drop_eq_getElem_cons h1, List.take_append_drop]
theorem chunk_iter (k : Nat) (l : List UInt8) (hk0 : 0 < k) (hk : k < 2 ^ 63) (hl : l.length ≤ 2 ^ 40) :
    IterC Tryz.prog 131 [.ref false (.agg [.sl false 1 (bys l)]), .ref false (.agg [nat k])] (chunkYs k l) := by
  refine IterC.of_body Tryz.func131 rfl (by rw [Tryz.ntmps131]; simp) fun lb => ?_
  refine AWp.regionW ?_
  refine AWp.block ?_
  refine AWp.loopKT [0, 1, 2] (fun (i : Nat) => [(4, nat (i * k))]) (fun i => []) (fun i => (chunkYs k l).take i) (fun i => i ≤ cdiv l.length k) (fun i => cdiv l.length k - i) (0) ?_ (Nat.zero_le _) ?_
  · skip
    refine Le.m 0 ?_ ?_ ?_
    · exact Go.Abs.evM
    · simp only [push_cast, ↓reduceIte, Nat.reduceEqDiff, Nat.reduceLT, Nat.reduceAdd, Nat.reduceSub, Nat.reduceMul, Nat.reduceLeDiff, Nat.reducePow, Int.reduceLT, Int.reduceToNat, reduceCtorEq, Int.reduceNeg, Int.reduceEq, Nat.reduceBEq, Nat.reduceBNe, Int.reduceBEq, Int.reduceBNe, String.reduceEq]
      try simp (disch := omega) only [w_nat, w_add, w_addl, w_addr, w_sub, w_subl, w_mul, w_mull, w_mulr, w_u32, w_u16, w_u8, w_u32a, N_zero]
      simp only [Nat.zero_mul]; rfl
    · exact ⟨rfl, rfl, rfl, rfl, by simp, rfl⟩
  · intro i hi K1 hK1
    refine AWp.seqK fun K2 hK2 => ?_
    refine AWp.regionW ?_
    refine AWp.condLM (fun c0 => ?_) (fun c0 => ?_)
    · skip
      have hil : i * k < l.length := of_decide_eq_true c0
      have hi' : i < cdiv l.length k := (cdiv_lt hk0).2 hil
      have hbk : i * k + k < 2 ^ 63 := by
        rcases Nat.eq_zero_or_pos i with h0 | h0
        · rw [h0, Nat.zero_mul]; omega
        · have := Nat.le_mul_of_pos_left k h0; omega
      refine AWp.skip ?_
      refine hK2 _ ?_
      refine AWp.seqK fun K3 hK3 => ?_
      refine AWp.block ?_
      refine AWp.drS [[(2, none)], [(1, none)], [(4, none)], [(14, some 1), (15, some 2)], [(16, some 3)], [(13, some 0), (17, some 4)], [(18, some 5)]] fun G hG => ?_
      refine Dr.sim ?_
      try simp only [List.cons_append, List.nil_append]
      refine Dr.sim ?_
      try simp only [List.cons_append, List.nil_append]
      refine Dr.sim ?_
      try simp only [List.cons_append, List.nil_append]
      refine Dr.sliceLo (i * k) ?_ ?_
      · rw [bys_len]; omega
      try simp only [List.cons_append, List.nil_append]
      refine Dr.sim ?_
      try simp only [List.cons_append, List.nil_append]
      refine Dr.imin ?_
      try simp only [List.cons_append, List.nil_append]
      refine Dr.sim ?_
      try simp only [List.cons_append, List.nil_append]
      refine Dr.finM (n := 7) [(5, 6)] [0, 1, 2, 4] hG YtldoehmlpdpiaaaGreatDoor.Facts.mixed fun KD hKD => ?_
      refine ARun2.endm (hKD _ ?_); clear hKD KD hG G
      refine AWp.regionM fun K4 hK4 => ?_
      refine ARun2.slice3M (i * k) (i * k + min k (l.length - i * k)) ?_ ?_ ?_
      · omega
      · rw [bys_len]; omega
      rw [chunk_eq k l i]
      refine ARun2.yieldM (x := [.sl false 1 (bys ((l.drop (i * k)).take k))]) ((chunkYs k l).drop (i + 1)) (chunkYs_split hi') fun b => ?_
      refine ARun2.endm (hK4 _ ?_)
      refine AWp.condLM (fun c1 => ?_) (fun c1 => ?_)
      · skip
        have hb : b = false := by simpa using c1
        subst hb
        refine AWp.ret ?_
        try simp only [thenQ, blockQ, noGo]
        refine bodyQ.m ?_
        clear hK4 K4 hK3 K3 hK2 K2 hK1 K1
        exact ⟨fun h => (by cases h), fun _ => ⟨(chunkYs k l).drop (i + 1), (chunkYs_split hi').trans (by simp [AS.lit])⟩⟩
      · skip
        have hb : b = true := by simpa using c1
        subst hb
        refine AWp.skip ?_
        refine hK3 _ ?_
        refine AWp.regionV ?_
        refine hK1 _ (i + 1) (hi') (by omega) ?_
        refine Le.m 0 ?_ ?_ ?_
        · exact Go.Abs.evM
        · simp only [push_cast, ↓reduceIte, Nat.reduceEqDiff, Nat.reduceLT, Nat.reduceAdd, Nat.reduceSub, Nat.reduceMul, Nat.reduceLeDiff, Nat.reducePow, Int.reduceLT, Int.reduceToNat, reduceCtorEq, Int.reduceNeg, Int.reduceEq, Nat.reduceBEq, Nat.reduceBNe, Int.reduceBEq, Int.reduceBNe, String.reduceEq]
          try simp (disch := omega) only [w_nat, w_add, w_addl, w_addr, w_sub, w_subl, w_mul, w_mull, w_mulr, w_u32, w_u16, w_u8, w_u32a, N_zero]
          rw [Nat.add_mul, Nat.one_mul]
        · refine ⟨rfl, rfl, rfl, rfl, ?_, rfl⟩
          show (chunkYs k l).take (i + 1) = (chunkYs k l).take i ++ [_]
          obtain ⟨h1, h2⟩ := List.getElem?_eq_some_iff.1 (chunkYs_get hi')
          rw [List.take_succ_eq_append_getElem h1, h2]
    · skip
      have hie : i = cdiv l.length k := by
        have h1 : ¬ i * k < l.length := of_decide_eq_false c0
        have := mt (cdiv_lt hk0 (n := l.length) (i := i)).1 h1
        omega
      subst hie
      refine AWp.exit ?_
      try simp only [thenQ, blockQ, noGo, reduceIte, Nat.reduceEqDiff]
      try simp only [thenQ, blockQ, noGo]
      refine bodyQ.n ?_
      clear hK2 K2 hK1 K1
      exact ⟨fun _ => List.take_of_length_le (by simp [chunkYs, chunks]), fun h => (by cases h)⟩
theorem chunk_c (k : Nat) (l : List UInt8) (hk : 0 < k) : PC Tryz.prog 123 [.sl false 1 (bys l), nat k] (.fn (.func 131) [] [.ref true (.agg [.sl false 1 (bys l)]), .ref true (.agg [nat k])]) := by
  refine PC.of_body (by simp only [push_cast]) Tryz.func123 rfl (by rw [Tryz.ntmps123]; simp) ?_
  refine AWp.regionW ?_
  refine AWp.seqK fun K1 hK1 => ?_
  refine AWp.regionW ?_
  refine AWp.condF ?_ (by simp only [push_cast, ↓reduceIte, Nat.reduceEqDiff, Nat.reduceLT, Nat.reduceAdd, Nat.reduceSub, Nat.reduceMul, Nat.reduceLeDiff, Nat.reducePow, Int.reduceLT, Int.reduceToNat, reduceCtorEq, Int.reduceNeg, Int.reduceEq, Nat.reduceBEq, Nat.reduceBNe, Int.reduceBEq, Int.reduceBNe, String.reduceEq]; rw [decide_eq_false (by omega)])
  refine AWp.skip ?_
  refine hK1 _ ?_
  refine AWp.regionW ?_
  refine AWp.pubBox 0 rfl (Nat.le_refl _) rfl (by simp) ?_
  refine AWp.pubBox 1 rfl (Nat.zero_le _) rfl (by simp) ?_
  simp only [push_cast, ↓reduceIte, Nat.reduceEqDiff, Nat.reduceLT, Nat.reduceAdd, Nat.reduceSub, Nat.reduceMul, Nat.reduceLeDiff, Nat.reducePow, Int.reduceLT, Int.reduceToNat, reduceCtorEq, Int.reduceNeg, Int.reduceEq, Nat.reduceBEq, Nat.reduceBNe, Int.reduceBEq, Int.reduceBNe, String.reduceEq]
  refine AWp.ret ?_
  try simp only [thenQ, blockQ, noGo]
  refine bodyQ.m ?_
  clear hK1 K1
  rfl
theorem numbers_c (k : Nat) (l : List UInt8) : PC Tryz.prog 109 [nat k, .sl false 1 (bys l)] (.fn (.func 122) [] [.ref true (.agg [.sl false 1 (bys l)]), .ref true (.agg [nat k])]) := by
  refine PC.of_body (by simp only [push_cast]) Tryz.func109 rfl (by rw [Tryz.ntmps109]; simp) ?_
  refine AWp.regionW ?_
  refine AWp.regionW ?_
  refine AWp.pubBox 0 rfl (Nat.le_refl _) rfl (by simp) ?_
  refine AWp.pubBox 1 rfl (Nat.zero_le _) rfl (by simp) ?_
  simp only [push_cast, ↓reduceIte, Nat.reduceEqDiff, Nat.reduceLT, Nat.reduceAdd, Nat.reduceSub, Nat.reduceMul, Nat.reduceLeDiff, Nat.reducePow, Int.reduceLT, Int.reduceToNat, reduceCtorEq, Int.reduceNeg, Int.reduceEq, Nat.reduceBEq, Nat.reduceBNe, Int.reduceBEq, Int.reduceBNe, String.reduceEq]
  refine AWp.ret ?_
  try simp only [thenQ, blockQ, noGo]
  refine bodyQ.m ?_
  rfl
def beN (l : List UInt8) : Nat := l.foldl (fun x b => x * 256 + b.toNat) 0
def numsOf (k : Nat) (l : List UInt8) : List Nat := (List.range (l.length / k)).map fun i => beN ((l.drop (i * k)).take k)
def numYs (k : Nat) (l : List UInt8) : List (List AV) := (numsOf k l).map fun n => [u32 n]
theorem shl8 {x : Nat} (h : x < 2 ^ 24) : IntKind.u32.wrap (N x * 2 ^ min 8 IntKind.u32.bits) = N (x * 256) := by
  have h2 : IntKind.u32.bits = 32 := rfl
  rw [h2, IntKind.wrap_u32]
  have : (2 : Int) ^ min 8 32 = 256 := rfl
  rw [this]
  unfold N
  omega
theorem or8 {x : Nat} {b : UInt8} (h : x < 2 ^ 24) : bitsV .or .u32 (N (x * 256)) (N b.toNat) = N (x * 256 + b.toNat) := by
  have hb : b.toNat < 256 := b.toNat_lt
  unfold N
  have h1 : (BitVec.ofInt 32 ((x * 256 : Nat) : Int)).toNat = x * 256 := by rw [BitVec.toNat_ofInt]; omega
  have h2 : (BitVec.ofInt 32 (b.toNat : Int)).toNat = b.toNat := by rw [BitVec.toNat_ofInt]; omega
  show IntKind.u32.wrap ((BitVec.ofInt 32 ((x * 256 : Nat) : Int) ||| BitVec.ofInt 32 (b.toNat : Int)).toNat : Nat) = _
  rw [BitVec.toNat_or, h1, h2]
  have h3 : x * 256 ||| b.toNat = x * 256 + b.toNat := by
    have := Nat.shiftLeft_add_eq_or_of_lt (i := 8) (b := b.toNat) (by omega) x
    rw [Nat.shiftLeft_eq, show (2 : Nat) ^ 8 = 256 from rfl] at this
    omega
  rw [h3, IntKind.wrap_u32]
  omega
theorem beN_lt : ∀ (l : List UInt8), beN l < 256 ^ l.length := by
  intro l
  have key : ∀ (l : List UInt8) (x : Nat), l.foldl (fun x b => x * 256 + b.toNat) x + 1 ≤ (x + 1) * 256 ^ l.length := by
    intro l
    induction l with
    | nil => intro x; simp
    | cons b l ih =>
      intro x
      have hb : b.toNat < 256 := b.toNat_lt
      refine Nat.le_trans (ih _) ?_
      rw [List.length_cons, Nat.pow_succ, Nat.mul_comm (256 ^ l.length) 256, ← Nat.mul_assoc]
      refine Nat.mul_le_mul_right _ ?_
      show x * 256 + b.toNat + 1 ≤ (x + 1) * 256
      omega
  have := key l 0
  simp only [beN]; omega
theorem beN_snoc (l : List UInt8) (b : UInt8) : beN (l ++ [b]) = beN l * 256 + b.toNat := by simp [beN]
theorem numYs_len (k : Nat) (l : List UInt8) : (numYs k l).length = (numsOf k l).length := by simp [numYs]
theorem chunkYs_len (k : Nat) (l : List UInt8) : (chunkYs k l).length = cdiv l.length k := by simp [chunkYs, chunks]
theorem nums_len (k : Nat) (l : List UInt8) : (numsOf k l).length = l.length / k := by simp [numsOf]
theorem nums_le (k : Nat) (l : List UInt8) (hk : 0 < k) : (numsOf k l).length ≤ cdiv l.length k := by
  rw [nums_len]; exact Nat.div_le_div_right (by omega)
theorem numYs_get {k : Nat} {l : List UInt8} {i : Nat} (h : i < l.length / k) : (numYs k l)[i]? = some [u32 (beN ((l.drop (i * k)).take k))] := by
  simp [numYs, numsOf, h]
theorem numYs_split {k : Nat} {l : List UInt8} {i : Nat} (h : i < l.length / k) : numYs k l = (numYs k l).take i ++ [u32 (beN ((l.drop (i * k)).take k))] :: (numYs k l).drop (i + 1) := by
  obtain ⟨h1, h2⟩ := List.getElem?_eq_some_iff.1 (numYs_get h)
  rw [← h2, ← List.drop_eq_getElem_cons h1, List.take_append_drop]
theorem numbers_iter (k : Nat) (l : List UInt8) (hk : k = 1 ∨ k = 2 ∨ k = 4) (hl : l.length ≤ 2 ^ 40) :
    IterC Tryz.prog 122 [.ref false (.agg [.sl false 1 (bys l)]), .ref false (.agg [nat k])] (numYs k l) := by
  have hk0 : 0 < k := by omega
  refine IterC.of_body Tryz.func122 rfl (by rw [Tryz.ntmps122]; simp) fun lb => ?_
  refine AWp.regionW ?_
  refine AWp.regionM fun K1 hK1 => ?_
  refine ARun2.callM (chunk_c k l hk0) ?_
  refine ARun2.endm (hK1 _ ?_)
  refine AWp.block ?_
  refine AWp.rangeFuncM (chunk_iter k l hk0 (by omega) hl) [2, 3] (fun pre ob tr go => ob = [.box 185 [.val (.func (.yield lb) #[] #[])]] ∧ go = true ∧ tr = (numYs k l).take pre.length ∧ pre.length ≤ cdiv l.length k) (fun e ob tr go => e = .ret ∧ ob = [.box 185 [.val (.func (.yield lb) #[] #[])]] ∧ Fin (numYs k l) tr go) ?_ ?_ ?_ ?_ ?_
  · intro x hx
    simp only [chunkYs, List.mem_map] at hx
    obtain ⟨c, _, rfl⟩ := hx
    rfl
  · exact ⟨rfl, rfl, rfl, Nat.zero_le _⟩
  · rintro pre x post ob tr go hxs ⟨rfl, rfl, rfl, hle⟩
    have hpl : pre.length < cdiv l.length k := by rw [← chunkYs_len k l, hxs]; simp
    have hx : (chunkYs k l)[pre.length]? = some x := by rw [hxs]; simp
    rw [chunkYs_get hpl] at hx
    simp only [Option.some.injEq] at hx
    subst hx
    generalize hch : (l.drop (pre.length * k)).take k = c at hxs ⊢
    have hcl : c.length ≤ k := by rw [← hch]; exact List.length_take_le _ _
    have hcl2 : c.length = min k (l.length - pre.length * k) := by rw [← hch, List.length_take, List.length_drop]
    refine AWp.regionV ?_
    change AWp _ _ _ _
    refine AWp.block ?_
    refine AWp.regionW ?_
    refine AWp.seqK fun K2 hK2 => ?_
    refine AWp.regionW ?_
    refine AWp.block ?_
    refine AWp.loopK0 [2, 3, 4, 12, 13] (fun (j : Nat) => [(14, nat j), (5, u32 (beN (c.take j)))]) (fun j => j ≤ c.length) (fun j => c.length - j) (0) ?_ (Nat.zero_le _) ?_
    · skip
      refine Le.m 1 ?_ ?_
      · exact Go.Abs.evM
      · exact Go.Abs.evN
    · intro j hj K3 hK3
      refine AWp.regionW ?_
      refine AWp.seqK fun K4 hK4 => ?_
      refine AWp.condLM (fun c0 => ?_) (fun c0 => ?_)
      · skip
        have hjl : j < c.length := of_decide_eq_true c0
        have hx24 : beN (c.take j) < 2 ^ 24 := by
          have h1 := beN_lt (c.take j)
          rw [List.length_take, Nat.min_eq_left (by omega)] at h1
          have h2 : 256 ^ j ≤ 256 ^ 3 := Nat.pow_le_pow_right (by omega) (by omega)
          omega
        have hsn : beN (c.take (j + 1)) = beN (c.take j) * 256 + c[j].toNat := by rw [List.take_succ_eq_append_getElem hjl, beN_snoc]
        refine AWp.skip ?_
        refine hK4 _ ?_
        refine AWp.seqK fun K5 hK5 => ?_
        refine AWp.block ?_
        refine AWp.regionM fun K6 hK6 => ?_
        refine ARun2.indexM (j) (.val (.int .u8 (N c[j].toNat))) ?_ ?_
        · rw [bys_get, List.getElem?_eq_getElem hjl]; rfl
        refine ARun2.endm (hK6 _ ?_)
        refine AWp.regionV ?_
        rw [shl8 hx24, or8 hx24, ← hsn]
        refine hK5 _ ?_
        refine AWp.regionV ?_
        refine hK3 _ (j + 1) (by omega) (by omega) ?_
        refine Le.m 1 ?_ ?_
        · exact Go.Abs.evM
        · exact Go.Abs.evN
      · skip
        have hjc : j = c.length := by have h := of_decide_eq_false c0; omega
        subst hjc
        refine AWp.exit ?_
        try simp only [thenQ, blockQ, noGo, reduceIte, Nat.reduceEqDiff]
        refine hK2 _ ?_
        cases hcd : decide (c.length < k) with
        | true =>
          have hlt : c.length < k := of_decide_eq_true hcd
          refine AWp.regionS fun K hK => ?_
          simp only [push_cast, ↓reduceIte, Nat.reduceEqDiff, Nat.reduceLT, Nat.reduceAdd, Nat.reduceSub, Nat.reduceMul, Nat.reduceLeDiff, Nat.reducePow, Int.reduceLT, Int.reduceToNat, reduceCtorEq, Int.reduceNeg, Int.reduceEq, Nat.reduceBEq, Nat.reduceBNe, Int.reduceBEq, Int.reduceBNe, String.reduceEq, hcd, List.take_length]
          refine ARun2.nil (hK _ ?_)
          refine AWp.condT ?_
          refine AWp.ret ⟨_, Le.refl _, rfl, rfl, fun _ => ?_, fun h => by cases h⟩
          refine List.take_of_length_le ?_
          rw [numYs_len, nums_len]
          have : ¬ pre.length < l.length / k := by
            rw [Nat.lt_div_iff_mul_lt hk0]
            omega
          omega
        | false =>
          have hfull : c.length = k := by have := of_decide_eq_false hcd; omega
          have hid : pre.length < l.length / k := by
            rw [Nat.lt_div_iff_mul_lt hk0]
            omega
          have hsp := numYs_split hid
          rw [hch] at hsp
          refine AWp.regionS fun K hK => ?_
          simp only [push_cast, ↓reduceIte, Nat.reduceEqDiff, Nat.reduceLT, Nat.reduceAdd, Nat.reduceSub, Nat.reduceMul, Nat.reduceLeDiff, Nat.reducePow, Int.reduceLT, Int.reduceToNat, reduceCtorEq, Int.reduceNeg, Int.reduceEq, Nat.reduceBEq, Nat.reduceBNe, Int.reduceBEq, Int.reduceBNe, String.reduceEq, hcd, List.take_length]
          refine ARun2.yieldM (x := [u32 (beN c)]) ((numYs k l).drop (pre.length + 1)) hsp fun b => ?_
          refine ARun2.nil (hK _ ?_)
          refine AWp.condM (fun hc2 => ?_) (fun hc2 => ?_)
          · refine AWp.ret ⟨_, Le.refl _, rfl, rfl, fun h => ?_, fun _ => ?_⟩
            · cases b <;> simp at hc2 h
            · exact ⟨(numYs k l).drop (pre.length + 1), hsp.trans (by rw [List.append_assoc]; rfl)⟩
          · have hb : b = true := by cases b <;> simp at hc2 ⊢
            subst hb
            refine AWp.skip ⟨_, Le.refl _, rfl, rfl, ?_, ?_⟩
            · rw [List.length_append, List.length_cons, List.length_nil]
              obtain ⟨h1, h2⟩ := List.getElem?_eq_some_iff.1 (numYs_get hid)
              rw [hch] at h2
              rw [List.take_succ_eq_append_getElem h1, h2]
            · rw [List.length_append, List.length_cons, List.length_nil]; omega
  · rintro ob tr go df ⟨rfl, rfl, rfl, _⟩
    try simp only [thenQ, blockQ, noGo]
    refine bodyQ.n ?_
    clear hK1 K1
    exact ⟨fun _ => List.take_of_length_le (by rw [numYs_len, chunkYs_len]; exact nums_le k l hk0), fun h => by simp at h⟩
  · rintro e ob tr go df ⟨rfl, rfl, hfin⟩
    exact ⟨_, rfl, hfin⟩
end Go.Proofs.YtldoehmlpdpiaaaGreatDoor.C
set_option maxRecDepth 100000
namespace Go.Proofs.YtldoehmlpdpiaaaGreatDoor.C
open Go.Abs
theorem u32s_snoc (l : List Nat) (n : Nat) : u32s l ++ [.val (.int .u32 (N n))] = u32s (l ++ [n]) := by simp [u32s]
theorem numYs_ps (l : List Nat) : ∀ x ∈ (l.map fun n => [u32 n]), x.length = 1 := by
  intro x hx
  simp only [List.mem_map] at hx
  obtain ⟨n, _, rfl⟩ := hx
  rfl
theorem appendSeq_c {f : FuncId} {cap cap' : List AV} {l : List Nat} (hl : l.length ≤ 2 ^ 40) (hit : IterC Tryz.prog f cap' (l.map fun n => [u32 n])) (hc : callable Tryz.prog f = true) (hcap : HandL [] cap cap') (hcl : AV.idsOkL (fun _ => false) cap = true) :
    PC Tryz.prog 121 [.val (.slice none 0 0), .fn (.func f) [] cap] (.sl true 1 (u32s l)) := by
  refine PC.of_body (by simp only [push_cast]) Tryz.func121 rfl (by rw [Tryz.ntmps121]; simp) ?_
  refine AWp.regionW ?_
  refine AWp.seqK fun K1 hK1 => ?_
  refine AWp.regionW ?_
  refine AWp.block ?_
  refine AWp.nilBox 0 0 23 1 rfl rfl ?_
  refine AWp.rangeFuncM (hit) [2] (fun pre ob tr go => ob = [.box 132 [.own 1], .row 23 1 (u32s (l.take pre.length))]) (fun _ _ _ _ => False) ?_ ?_ ?_ ?_ ?_
  · exact numYs_ps l
  · rfl
  · rintro pre x post ob tr go hxs rfl
    have hpl : pre.length < l.length := by
      have := congrArg List.length hxs
      simp at this; omega
    have hx : (l.map fun n => [u32 n])[pre.length]? = some x := by rw [hxs]; simp
    simp only [List.getElem?_map, List.getElem?_eq_getElem hpl, Option.map_some, Option.some.injEq] at hx
    subst hx
    refine AWp.regionV ?_
    change AWp _ _ _ _
    refine AWp.block ?_
    refine AWp.regionN fun K2 hK2 => ?_
    refine ARun2.appendM ?_ ?_ ?_
    · rw [YtldoehmlpdpiaaaGreatDoor.Facts.eb132, u32s_len, List.length_take, List.length_cons, List.length_nil]; omega
    · rw [u32s_len, List.length_take, List.length_cons, List.length_nil]; omega
    refine ARun2.endm (hK2 _ ?_)
    refine ⟨_, Le.refl _, ?_⟩
    have e : u32s (l.take (pre ++ [[u32 l[pre.length]]]).length) = u32s (l.take pre.length) ++ [u32 l[pre.length]] := by
      rw [List.length_append, List.length_cons, List.length_nil, List.take_succ_eq_append_getElem hpl, ← u32s_snoc]
    exact (congrArg (fun z => [Ob.box 132 [AV.own 1], Ob.row 23 1 z]) e).symm
  · rintro ob tr go df rfl
    refine hK1 _ ?_
    refine AWp.regionW ?_
    refine AWp.pub 1 rfl (Nat.zero_le _) ?_
    simp only [push_cast, ↓reduceIte, Nat.reduceEqDiff, Nat.reduceLT, Nat.reduceAdd, Nat.reduceSub, Nat.reduceMul, Nat.reduceLeDiff, Nat.reducePow, Int.reduceLT, Int.reduceToNat, reduceCtorEq, Int.reduceNeg, Int.reduceEq, Nat.reduceBEq, Nat.reduceBNe, Int.reduceBEq, Int.reduceBNe, String.reduceEq]
    rw [List.take_length]
    refine AWp.ret ?_
    try simp only [thenQ, blockQ, noGo]
    refine bodyQ.m ?_
    clear hK1 K1
    rfl
  · rintro e ob tr go df h
    exact h.elim
theorem collect_c {f : FuncId} {cap cap' : List AV} {l : List Nat} (hl : l.length ≤ 2 ^ 40) (hit : IterC Tryz.prog f cap' (l.map fun n => [u32 n])) (hc : callable Tryz.prog f = true) (hcap : HandL [] cap cap') (hcl : AV.idsOkL (fun _ => false) cap = true) (hx : HandL [] cap cap) :
    PC Tryz.prog 108 [.fn (.func f) [] cap] (.sl true 1 (u32s l)) := by
  refine PC.of_body (by simp only [push_cast]) Tryz.func108 rfl (by rw [Tryz.ntmps108]; simp) ?_
  refine AWp.regionW ?_
  refine AWp.regionM fun K1 hK1 => ?_
  refine ARun2.callM (appendSeq_c hl hit hc hcap hcl) ?_
  refine ARun2.endm (hK1 _ ?_)
  refine AWp.ret ?_
  try simp only [thenQ, blockQ, noGo]
  refine bodyQ.m ?_
  clear hK1 K1
  rfl
theorem numbers_n (k : Nat) (l : List UInt8) (hk : k = 1 ∨ k = 2 ∨ k = 4) (hl : l.length ≤ 2 ^ 40) (hm : l.length % k = 0) :
    PC Tryz.prog 99 [nat k, .sl false 1 (bys l)] (.sl true 1 (u32s (numsOf k l))) := by
  have hk0 : 0 < k := by omega
  have hr : (k == 1 || k == 2 || k == 4) = true := by rcases hk with rfl | rfl | rfl <;> rfl
  refine PC.of_body (by simp only [push_cast]) Tryz.func99 rfl (by rw [Tryz.ntmps99]; simp) ?_
  refine AWp.regionW ?_
  refine AWp.seqK fun K1 hK1 => ?_
  refine AWp.regionM fun K2 hK2 => ?_
  refine ARun2.callM (hr ▸ wire_right k) ?_
  refine ARun2.endm (hK2 _ ?_)
  refine AWp.condF ?_ (by simp only [push_cast, ↓reduceIte, Nat.reduceEqDiff, Nat.reduceLT, Nat.reduceAdd, Nat.reduceSub, Nat.reduceMul, Nat.reduceLeDiff, Nat.reducePow, Int.reduceLT, Int.reduceToNat, reduceCtorEq, Int.reduceNeg, Int.reduceEq, Nat.reduceBEq, Nat.reduceBNe, Int.reduceBEq, Int.reduceBNe, String.reduceEq, hm])
  refine AWp.skip ?_
  refine hK1 _ ?_
  refine AWp.regionM fun K3 hK3 => ?_
  refine ARun2.callM (numbers_c k l) ?_
  refine ARun2.callM (collect_c (l := numsOf k l) (cap := [.ref false (.agg [.sl false 1 (bys l)]), .ref false (.agg [nat k])]) (by rw [nums_len]; exact Nat.le_trans (Nat.div_le_self _ _) hl) (numbers_iter k l hk hl) rfl Hand.goL (by simp only [push_cast]) Hand.goL) ?_
  refine ARun2.endm (hK3 _ ?_)
  refine AWp.ret ?_
  try simp only [thenQ, blockQ, noGo]
  refine bodyQ.m ?_
  clear hK3 K3 hK2 K2 hK1 K1
  rfl
theorem bys_cons (b : UInt8) (l : List UInt8) : bys (b :: l) = .val (.int .u8 (N b.toNat)) :: bys l := rfl
theorem clone_c (l : List UInt8) (hl : l.length ≤ 2 ^ 40) : PC Tryz.prog 63 [.sl false 1 (bys l)] (.sl true 1 (bys l)) := by
  refine PC.of_body (by simp only [push_cast]) Tryz.func63 rfl (by rw [Tryz.ntmps63]; simp) ?_
  refine AWp.regionS fun K hK => ?_; simp only [push_cast, ↓reduceIte, Nat.reduceEqDiff, Nat.reduceLT, Nat.reduceAdd, Nat.reduceSub, Nat.reduceMul, Nat.reduceLeDiff, Nat.reducePow, Int.reduceLT, Int.reduceToNat, reduceCtorEq, Int.reduceNeg, Int.reduceEq, Nat.reduceBEq, Nat.reduceBNe, Int.reduceBEq, Int.reduceBNe, String.reduceEq]
  refine ARun2.nil (hK _ ?_); clear hK K
  refine AWp.seqK fun KA hKA => ?_
  cases l with
  | nil =>
    refine AWp.regionS fun K hK => ?_; simp only [push_cast, ↓reduceIte, Nat.reduceEqDiff, Nat.reduceLT, Nat.reduceAdd, Nat.reduceSub, Nat.reduceMul, Nat.reduceLeDiff, Nat.reducePow, Int.reduceLT, Int.reduceToNat, reduceCtorEq, Int.reduceNeg, Int.reduceEq, Nat.reduceBEq, Nat.reduceBNe, Int.reduceBEq, Int.reduceBNe, String.reduceEq]
    refine ARun2.nilSl rfl rfl (.inl rfl) rfl YtldoehmlpdpiaaaGreatDoor.Facts.nk40 (by rw [YtldoehmlpdpiaaaGreatDoor.Facts.nk40]; rfl) (fun b hb => ?_)
    refine ARun2.go ?_; simp only [push_cast, ↓reduceIte, Nat.reduceEqDiff, Nat.reduceLT, Nat.reduceAdd, Nat.reduceSub, Nat.reduceMul, Nat.reduceLeDiff, Nat.reducePow, Int.reduceLT, Int.reduceToNat, reduceCtorEq, Int.reduceNeg, Int.reduceEq, Nat.reduceBEq, Nat.reduceBNe, Int.reduceBEq, Int.reduceBNe, String.reduceEq]
    refine ARun2.nil (hK _ ?_); clear hK K
    refine AWp.cond (by first | (simp only [push_cast, ↓reduceIte, Nat.reduceEqDiff, Nat.reduceLT, Nat.reduceAdd, Nat.reduceSub, Nat.reduceMul, Nat.reduceLeDiff, Nat.reducePow, Int.reduceLT, Int.reduceToNat, reduceCtorEq, Int.reduceNeg, Int.reduceEq, Nat.reduceBEq, Nat.reduceBNe, Int.reduceBEq, Int.reduceBNe, String.reduceEq]; done) | (simp only [push_cast, ↓reduceIte, Nat.reduceEqDiff, Nat.reduceLT, Nat.reduceAdd, Nat.reduceSub, Nat.reduceMul, Nat.reduceLeDiff, Nat.reducePow, Int.reduceLT, Int.reduceToNat, reduceCtorEq, Int.reduceNeg, Int.reduceEq, Nat.reduceBEq, Nat.reduceBNe, Int.reduceBEq, Int.reduceBNe, String.reduceEq]; rfl)) (fun hc => ?_) (fun hc => ?_)
    · refine AWp.regionS fun K hK => ?_; simp only [push_cast, ↓reduceIte, Nat.reduceEqDiff, Nat.reduceLT, Nat.reduceAdd, Nat.reduceSub, Nat.reduceMul, Nat.reduceLeDiff, Nat.reducePow, Int.reduceLT, Int.reduceToNat, reduceCtorEq, Int.reduceNeg, Int.reduceEq, Nat.reduceBEq, Nat.reduceBNe, Int.reduceBEq, Int.reduceBNe, String.reduceEq]
      refine ARun2.nil (hK _ ?_); clear hK K
      refine AWp.nilOwn 2 5 1 (by simp only [push_cast, ↓reduceIte, Nat.reduceEqDiff, Nat.reduceLT, Nat.reduceAdd, Nat.reduceSub, Nat.reduceMul, Nat.reduceLeDiff, Nat.reducePow, Int.reduceLT, Int.reduceToNat, reduceCtorEq, Int.reduceNeg, Int.reduceEq, Nat.reduceBEq, Nat.reduceBNe, Int.reduceBEq, Int.reduceBNe, String.reduceEq]) ?_
      simp only [push_cast, ↓reduceIte, Nat.reduceEqDiff, Nat.reduceLT, Nat.reduceAdd, Nat.reduceSub, Nat.reduceMul, Nat.reduceLeDiff, Nat.reducePow, Int.reduceLT, Int.reduceToNat, reduceCtorEq, Int.reduceNeg, Int.reduceEq, Nat.reduceBEq, Nat.reduceBNe, Int.reduceBEq, Int.reduceBNe, String.reduceEq]
      refine AWp.pub 0 rfl (Nat.le_refl _) ?_
      refine AWp.ret ⟨_, rfl, ?_⟩
      simp only [push_cast, ↓reduceIte, Nat.reduceEqDiff, Nat.reduceLT, Nat.reduceAdd, Nat.reduceSub, Nat.reduceMul, Nat.reduceLeDiff, Nat.reducePow, Int.reduceLT, Int.reduceToNat, reduceCtorEq, Int.reduceNeg, Int.reduceEq, Nat.reduceBEq, Nat.reduceBNe, Int.reduceBEq, Int.reduceBNe, String.reduceEq]
    · refine AWp.skip (hKA _ ?_)
      refine AWp.regionS fun K hK => ?_; simp only [push_cast, ↓reduceIte, Nat.reduceEqDiff, Nat.reduceLT, Nat.reduceAdd, Nat.reduceSub, Nat.reduceMul, Nat.reduceLeDiff, Nat.reducePow, Int.reduceLT, Int.reduceToNat, reduceCtorEq, Int.reduceNeg, Int.reduceEq, Nat.reduceBEq, Nat.reduceBNe, Int.reduceBEq, Int.reduceBNe, String.reduceEq]
      refine ARun2.buildOwn (e := 5) rfl rfl YtldoehmlpdpiaaaGreatDoor.Facts.es40 YtldoehmlpdpiaaaGreatDoor.Facts.el40 rfl (fun p hp => by simp at hp) (by decide) ?_
      refine ARun2.go ?_; simp only [push_cast, ↓reduceIte, Nat.reduceEqDiff, Nat.reduceLT, Nat.reduceAdd, Nat.reduceSub, Nat.reduceMul, Nat.reduceLeDiff, Nat.reducePow, Int.reduceLT, Int.reduceToNat, reduceCtorEq, Int.reduceNeg, Int.reduceEq, Nat.reduceBEq, Nat.reduceBNe, Int.reduceBEq, Int.reduceBNe, String.reduceEq]
      refine ARun2.append (xs := []) rfl rfl (by first | (simp only [push_cast, ↓reduceIte, Nat.reduceEqDiff, Nat.reduceLT, Nat.reduceAdd, Nat.reduceSub, Nat.reduceMul, Nat.reduceLeDiff, Nat.reducePow, Int.reduceLT, Int.reduceToNat, reduceCtorEq, Int.reduceNeg, Int.reduceEq, Nat.reduceBEq, Nat.reduceBNe, Int.reduceBEq, Int.reduceBNe, String.reduceEq]; done) | (simp only [push_cast, ↓reduceIte, Nat.reduceEqDiff, Nat.reduceLT, Nat.reduceAdd, Nat.reduceSub, Nat.reduceMul, Nat.reduceLeDiff, Nat.reducePow, Int.reduceLT, Int.reduceToNat, reduceCtorEq, Int.reduceNeg, Int.reduceEq, Nat.reduceBEq, Nat.reduceBNe, Int.reduceBEq, Int.reduceBNe, String.reduceEq]; rfl)) rfl (by first | (simp only [push_cast, ↓reduceIte, Nat.reduceEqDiff, Nat.reduceLT, Nat.reduceAdd, Nat.reduceSub, Nat.reduceMul, Nat.reduceLeDiff, Nat.reducePow, Int.reduceLT, Int.reduceToNat, reduceCtorEq, Int.reduceNeg, Int.reduceEq, Nat.reduceBEq, Nat.reduceBNe, Int.reduceBEq, Int.reduceBNe, String.reduceEq]; done) | (simp only [push_cast, ↓reduceIte, Nat.reduceEqDiff, Nat.reduceLT, Nat.reduceAdd, Nat.reduceSub, Nat.reduceMul, Nat.reduceLeDiff, Nat.reducePow, Int.reduceLT, Int.reduceToNat, reduceCtorEq, Int.reduceNeg, Int.reduceEq, Nat.reduceBEq, Nat.reduceBNe, Int.reduceBEq, Int.reduceBNe, String.reduceEq]; rfl)) (by first | (simp only [push_cast, ↓reduceIte, Nat.reduceEqDiff, Nat.reduceLT, Nat.reduceAdd, Nat.reduceSub, Nat.reduceMul, Nat.reduceLeDiff, Nat.reducePow, Int.reduceLT, Int.reduceToNat, reduceCtorEq, Int.reduceNeg, Int.reduceEq, Nat.reduceBEq, Nat.reduceBNe, Int.reduceBEq, Int.reduceBNe, String.reduceEq]; done) | (simp only [push_cast, ↓reduceIte, Nat.reduceEqDiff, Nat.reduceLT, Nat.reduceAdd, Nat.reduceSub, Nat.reduceMul, Nat.reduceLeDiff, Nat.reducePow, Int.reduceLT, Int.reduceToNat, reduceCtorEq, Int.reduceNeg, Int.reduceEq, Nat.reduceBEq, Nat.reduceBNe, Int.reduceBEq, Int.reduceBNe, String.reduceEq]; rfl)) (.inl (by first | (simp only [push_cast, ↓reduceIte, Nat.reduceEqDiff, Nat.reduceLT, Nat.reduceAdd, Nat.reduceSub, Nat.reduceMul, Nat.reduceLeDiff, Nat.reducePow, Int.reduceLT, Int.reduceToNat, reduceCtorEq, Int.reduceNeg, Int.reduceEq, Nat.reduceBEq, Nat.reduceBNe, Int.reduceBEq, Int.reduceBNe, String.reduceEq]; done) | (simp only [push_cast, ↓reduceIte, Nat.reduceEqDiff, Nat.reduceLT, Nat.reduceAdd, Nat.reduceSub, Nat.reduceMul, Nat.reduceLeDiff, Nat.reducePow, Int.reduceLT, Int.reduceToNat, reduceCtorEq, Int.reduceNeg, Int.reduceEq, Nat.reduceBEq, Nat.reduceBNe, Int.reduceBEq, Int.reduceBNe, String.reduceEq]; rfl))) (by first | (simp only [push_cast, ↓reduceIte, Nat.reduceEqDiff, Nat.reduceLT, Nat.reduceAdd, Nat.reduceSub, Nat.reduceMul, Nat.reduceLeDiff, Nat.reducePow, Int.reduceLT, Int.reduceToNat, reduceCtorEq, Int.reduceNeg, Int.reduceEq, Nat.reduceBEq, Nat.reduceBNe, Int.reduceBEq, Int.reduceBNe, String.reduceEq]; done) | (simp only [push_cast, ↓reduceIte, Nat.reduceEqDiff, Nat.reduceLT, Nat.reduceAdd, Nat.reduceSub, Nat.reduceMul, Nat.reduceLeDiff, Nat.reducePow, Int.reduceLT, Int.reduceToNat, reduceCtorEq, Int.reduceNeg, Int.reduceEq, Nat.reduceBEq, Nat.reduceBNe, Int.reduceBEq, Int.reduceBNe, String.reduceEq]; rfl)) ?_ ?_ rfl (by first | (simp only [push_cast, ↓reduceIte, Nat.reduceEqDiff, Nat.reduceLT, Nat.reduceAdd, Nat.reduceSub, Nat.reduceMul, Nat.reduceLeDiff, Nat.reducePow, Int.reduceLT, Int.reduceToNat, reduceCtorEq, Int.reduceNeg, Int.reduceEq, Nat.reduceBEq, Nat.reduceBNe, Int.reduceBEq, Int.reduceBNe, String.reduceEq]; done) | (simp only [push_cast, ↓reduceIte, Nat.reduceEqDiff, Nat.reduceLT, Nat.reduceAdd, Nat.reduceSub, Nat.reduceMul, Nat.reduceLeDiff, Nat.reducePow, Int.reduceLT, Int.reduceToNat, reduceCtorEq, Int.reduceNeg, Int.reduceEq, Nat.reduceBEq, Nat.reduceBNe, Int.reduceBEq, Int.reduceBNe, String.reduceEq]; rfl)) ?_
      · rw [YtldoehmlpdpiaaaGreatDoor.Facts.eb40]; simp only [List.length_nil]; simp at hl; omega
      · simp only [List.length_nil]; simp at hl; omega
      rw [List.nil_append]
      simp only [push_cast, ↓reduceIte, Nat.reduceEqDiff, Nat.reduceLT, Nat.reduceAdd, Nat.reduceSub, Nat.reduceMul, Nat.reduceLeDiff, Nat.reducePow, Int.reduceLT, Int.reduceToNat, reduceCtorEq, Int.reduceNeg, Int.reduceEq, Nat.reduceBEq, Nat.reduceBNe, Int.reduceBEq, Int.reduceBNe, String.reduceEq]
      refine ARun2.nil (hK _ ?_); clear hK K
      refine AWp.pub 0 rfl (Nat.le_refl _) ?_
      refine AWp.ret ⟨_, rfl, ?_⟩
      simp only [push_cast, ↓reduceIte, Nat.reduceEqDiff, Nat.reduceLT, Nat.reduceAdd, Nat.reduceSub, Nat.reduceMul, Nat.reduceLeDiff, Nat.reducePow, Int.reduceLT, Int.reduceToNat, reduceCtorEq, Int.reduceNeg, Int.reduceEq, Nat.reduceBEq, Nat.reduceBNe, Int.reduceBEq, Int.reduceBNe, String.reduceEq]
  | cons c l =>
    refine AWp.regionS fun K hK => ?_
    simp only [push_cast, ↓reduceIte, Nat.reduceEqDiff, Nat.reduceLT, Nat.reduceAdd, Nat.reduceSub, Nat.reduceMul, Nat.reduceLeDiff, Nat.reducePow, Int.reduceLT, Int.reduceToNat, reduceCtorEq, Int.reduceNeg, Int.reduceEq, Nat.reduceBEq, Nat.reduceBNe, Int.reduceBEq, Int.reduceBNe, String.reduceEq, bys_cons]
    refine ARun2.nil (hK _ ?_); clear hK K
    refine AWp.cond (t := false) (by first | (simp only [push_cast, ↓reduceIte, Nat.reduceEqDiff, Nat.reduceLT, Nat.reduceAdd, Nat.reduceSub, Nat.reduceMul, Nat.reduceLeDiff, Nat.reducePow, Int.reduceLT, Int.reduceToNat, reduceCtorEq, Int.reduceNeg, Int.reduceEq, Nat.reduceBEq, Nat.reduceBNe, Int.reduceBEq, Int.reduceBNe, String.reduceEq]; done) | (simp only [push_cast, ↓reduceIte, Nat.reduceEqDiff, Nat.reduceLT, Nat.reduceAdd, Nat.reduceSub, Nat.reduceMul, Nat.reduceLeDiff, Nat.reducePow, Int.reduceLT, Int.reduceToNat, reduceCtorEq, Int.reduceNeg, Int.reduceEq, Nat.reduceBEq, Nat.reduceBNe, Int.reduceBEq, Int.reduceBNe, String.reduceEq]; rfl)) (fun hc => by cases hc) (fun hc => ?_)
    refine AWp.skip (hKA _ ?_)
    rw [← bys_cons]
    refine AWp.regionS fun K hK => ?_; simp only [push_cast, ↓reduceIte, Nat.reduceEqDiff, Nat.reduceLT, Nat.reduceAdd, Nat.reduceSub, Nat.reduceMul, Nat.reduceLeDiff, Nat.reducePow, Int.reduceLT, Int.reduceToNat, reduceCtorEq, Int.reduceNeg, Int.reduceEq, Nat.reduceBEq, Nat.reduceBNe, Int.reduceBEq, Int.reduceBNe, String.reduceEq]
    refine ARun2.buildOwn (e := 5) rfl rfl YtldoehmlpdpiaaaGreatDoor.Facts.es40 YtldoehmlpdpiaaaGreatDoor.Facts.el40 rfl (fun p hp => by simp at hp) (by decide) ?_
    refine ARun2.go ?_; simp only [push_cast, ↓reduceIte, Nat.reduceEqDiff, Nat.reduceLT, Nat.reduceAdd, Nat.reduceSub, Nat.reduceMul, Nat.reduceLeDiff, Nat.reducePow, Int.reduceLT, Int.reduceToNat, reduceCtorEq, Int.reduceNeg, Int.reduceEq, Nat.reduceBEq, Nat.reduceBNe, Int.reduceBEq, Int.reduceBNe, String.reduceEq]
    refine ARun2.append (xs := []) rfl rfl (by first | (simp only [push_cast, ↓reduceIte, Nat.reduceEqDiff, Nat.reduceLT, Nat.reduceAdd, Nat.reduceSub, Nat.reduceMul, Nat.reduceLeDiff, Nat.reducePow, Int.reduceLT, Int.reduceToNat, reduceCtorEq, Int.reduceNeg, Int.reduceEq, Nat.reduceBEq, Nat.reduceBNe, Int.reduceBEq, Int.reduceBNe, String.reduceEq]; done) | (simp only [push_cast, ↓reduceIte, Nat.reduceEqDiff, Nat.reduceLT, Nat.reduceAdd, Nat.reduceSub, Nat.reduceMul, Nat.reduceLeDiff, Nat.reducePow, Int.reduceLT, Int.reduceToNat, reduceCtorEq, Int.reduceNeg, Int.reduceEq, Nat.reduceBEq, Nat.reduceBNe, Int.reduceBEq, Int.reduceBNe, String.reduceEq]; rfl)) rfl (by first | (simp only [push_cast, ↓reduceIte, Nat.reduceEqDiff, Nat.reduceLT, Nat.reduceAdd, Nat.reduceSub, Nat.reduceMul, Nat.reduceLeDiff, Nat.reducePow, Int.reduceLT, Int.reduceToNat, reduceCtorEq, Int.reduceNeg, Int.reduceEq, Nat.reduceBEq, Nat.reduceBNe, Int.reduceBEq, Int.reduceBNe, String.reduceEq]; done) | (simp only [push_cast, ↓reduceIte, Nat.reduceEqDiff, Nat.reduceLT, Nat.reduceAdd, Nat.reduceSub, Nat.reduceMul, Nat.reduceLeDiff, Nat.reducePow, Int.reduceLT, Int.reduceToNat, reduceCtorEq, Int.reduceNeg, Int.reduceEq, Nat.reduceBEq, Nat.reduceBNe, Int.reduceBEq, Int.reduceBNe, String.reduceEq]; rfl)) (by first | (simp only [push_cast, ↓reduceIte, Nat.reduceEqDiff, Nat.reduceLT, Nat.reduceAdd, Nat.reduceSub, Nat.reduceMul, Nat.reduceLeDiff, Nat.reducePow, Int.reduceLT, Int.reduceToNat, reduceCtorEq, Int.reduceNeg, Int.reduceEq, Nat.reduceBEq, Nat.reduceBNe, Int.reduceBEq, Int.reduceBNe, String.reduceEq]; done) | (simp only [push_cast, ↓reduceIte, Nat.reduceEqDiff, Nat.reduceLT, Nat.reduceAdd, Nat.reduceSub, Nat.reduceMul, Nat.reduceLeDiff, Nat.reducePow, Int.reduceLT, Int.reduceToNat, reduceCtorEq, Int.reduceNeg, Int.reduceEq, Nat.reduceBEq, Nat.reduceBNe, Int.reduceBEq, Int.reduceBNe, String.reduceEq]; rfl)) (.inl (by first | (simp only [push_cast, ↓reduceIte, Nat.reduceEqDiff, Nat.reduceLT, Nat.reduceAdd, Nat.reduceSub, Nat.reduceMul, Nat.reduceLeDiff, Nat.reducePow, Int.reduceLT, Int.reduceToNat, reduceCtorEq, Int.reduceNeg, Int.reduceEq, Nat.reduceBEq, Nat.reduceBNe, Int.reduceBEq, Int.reduceBNe, String.reduceEq]; done) | (simp only [push_cast, ↓reduceIte, Nat.reduceEqDiff, Nat.reduceLT, Nat.reduceAdd, Nat.reduceSub, Nat.reduceMul, Nat.reduceLeDiff, Nat.reducePow, Int.reduceLT, Int.reduceToNat, reduceCtorEq, Int.reduceNeg, Int.reduceEq, Nat.reduceBEq, Nat.reduceBNe, Int.reduceBEq, Int.reduceBNe, String.reduceEq]; rfl))) (by first | (simp only [push_cast, ↓reduceIte, Nat.reduceEqDiff, Nat.reduceLT, Nat.reduceAdd, Nat.reduceSub, Nat.reduceMul, Nat.reduceLeDiff, Nat.reducePow, Int.reduceLT, Int.reduceToNat, reduceCtorEq, Int.reduceNeg, Int.reduceEq, Nat.reduceBEq, Nat.reduceBNe, Int.reduceBEq, Int.reduceBNe, String.reduceEq]; done) | (simp only [push_cast, ↓reduceIte, Nat.reduceEqDiff, Nat.reduceLT, Nat.reduceAdd, Nat.reduceSub, Nat.reduceMul, Nat.reduceLeDiff, Nat.reducePow, Int.reduceLT, Int.reduceToNat, reduceCtorEq, Int.reduceNeg, Int.reduceEq, Nat.reduceBEq, Nat.reduceBNe, Int.reduceBEq, Int.reduceBNe, String.reduceEq]; rfl)) ?_ ?_ rfl (by first | (simp only [push_cast, ↓reduceIte, Nat.reduceEqDiff, Nat.reduceLT, Nat.reduceAdd, Nat.reduceSub, Nat.reduceMul, Nat.reduceLeDiff, Nat.reducePow, Int.reduceLT, Int.reduceToNat, reduceCtorEq, Int.reduceNeg, Int.reduceEq, Nat.reduceBEq, Nat.reduceBNe, Int.reduceBEq, Int.reduceBNe, String.reduceEq]; done) | (simp only [push_cast, ↓reduceIte, Nat.reduceEqDiff, Nat.reduceLT, Nat.reduceAdd, Nat.reduceSub, Nat.reduceMul, Nat.reduceLeDiff, Nat.reducePow, Int.reduceLT, Int.reduceToNat, reduceCtorEq, Int.reduceNeg, Int.reduceEq, Nat.reduceBEq, Nat.reduceBNe, Int.reduceBEq, Int.reduceBNe, String.reduceEq]; rfl)) ?_
    · rw [YtldoehmlpdpiaaaGreatDoor.Facts.eb40, bys_len]; simp only [List.length_nil]; omega
    · rw [bys_len]; simp only [List.length_nil]; omega
    rw [List.nil_append]
    simp only [push_cast, ↓reduceIte, Nat.reduceEqDiff, Nat.reduceLT, Nat.reduceAdd, Nat.reduceSub, Nat.reduceMul, Nat.reduceLeDiff, Nat.reducePow, Int.reduceLT, Int.reduceToNat, reduceCtorEq, Int.reduceNeg, Int.reduceEq, Nat.reduceBEq, Nat.reduceBNe, Int.reduceBEq, Int.reduceBNe, String.reduceEq]
    refine ARun2.nil (hK _ ?_); clear hK K
    refine AWp.pub 0 rfl (Nat.le_refl _) ?_
    refine AWp.ret ⟨_, rfl, ?_⟩
    simp only [push_cast, ↓reduceIte, Nat.reduceEqDiff, Nat.reduceLT, Nat.reduceAdd, Nat.reduceSub, Nat.reduceMul, Nat.reduceLeDiff, Nat.reducePow, Int.reduceLT, Int.reduceToNat, reduceCtorEq, Int.reduceNeg, Int.reduceEq, Nat.reduceBEq, Nat.reduceBNe, Int.reduceBEq, Int.reduceBNe, String.reduceEq]
theorem ba_loop (b : ByteArray) : ∀ (n i : Nat) (r : List UInt8), b.size - i = n → ByteArray.toList.loop b i r = r.reverse ++ b.data.toList.drop i := by
  have hlen : b.data.toList.length = b.size := Array.length_toList
  intro n
  induction n with
  | zero =>
    intro i r h
    rw [ByteArray.toList.loop, if_neg (by omega), List.drop_of_length_le (by omega), List.append_nil]
  | succ n ih =>
    intro i r h
    have hi : i < b.size := by omega
    have hi' : i < b.data.toList.length := by omega
    have hg : b.get! i = b.data.toList[i] := by
      have hi2 : i < b.data.size := hi
      show b.data[i]! = _
      rw [getElem!_pos b.data i hi2, Array.getElem_toList]
    rw [ByteArray.toList.loop, if_pos hi, ih (i + 1) _ (by omega), List.drop_eq_getElem_cons hi', hg, List.reverse_cons, List.append_assoc]
    rfl
theorem bstr_list (l : List UInt8) : (bstr l).toList = l := by
  rw [ByteArray.toList, ba_loop _ _ 0 [] rfl]
  simp [bstr]
theorem equal_c (l m : List UInt8) : PC Tryz.prog 71 [.sl false 1 (bys l), .sl false 1 (bys m)] (.val (.bool (decide (l = m)))) := by
  refine PC.of_body (by simp only [push_cast]) Tryz.func71 rfl (by rw [Tryz.ntmps71]; simp) ?_
  refine AWp.regionS fun K hK => ?_; simp only [push_cast, ↓reduceIte, Nat.reduceEqDiff, Nat.reduceLT, Nat.reduceAdd, Nat.reduceSub, Nat.reduceMul, Nat.reduceLeDiff, Nat.reducePow, Int.reduceLT, Int.reduceToNat, reduceCtorEq, Int.reduceNeg, Int.reduceEq, Nat.reduceBEq, Nat.reduceBNe, Int.reduceBEq, Int.reduceBNe, String.reduceEq]
  refine ARun2.nil (hK _ ?_); clear hK K
  refine AWp.regionS fun K hK => ?_; simp only [push_cast, ↓reduceIte, Nat.reduceEqDiff, Nat.reduceLT, Nat.reduceAdd, Nat.reduceSub, Nat.reduceMul, Nat.reduceLeDiff, Nat.reducePow, Int.reduceLT, Int.reduceToNat, reduceCtorEq, Int.reduceNeg, Int.reduceEq, Nat.reduceBEq, Nat.reduceBNe, Int.reduceBEq, Int.reduceBNe, String.reduceEq]
  refine ARun2.toStr rfl rfl YtldoehmlpdpiaaaGreatDoor.Facts.by40 (by first | (simp only [push_cast, ↓reduceIte, Nat.reduceEqDiff, Nat.reduceLT, Nat.reduceAdd, Nat.reduceSub, Nat.reduceMul, Nat.reduceLeDiff, Nat.reducePow, Int.reduceLT, Int.reduceToNat, reduceCtorEq, Int.reduceNeg, Int.reduceEq, Nat.reduceBEq, Nat.reduceBNe, Int.reduceBEq, Int.reduceBNe, String.reduceEq]; done) | (simp only [push_cast, ↓reduceIte, Nat.reduceEqDiff, Nat.reduceLT, Nat.reduceAdd, Nat.reduceSub, Nat.reduceMul, Nat.reduceLeDiff, Nat.reducePow, Int.reduceLT, Int.reduceToNat, reduceCtorEq, Int.reduceNeg, Int.reduceEq, Nat.reduceBEq, Nat.reduceBNe, Int.reduceBEq, Int.reduceBNe, String.reduceEq]; rfl)) (by first | (simp only [push_cast, ↓reduceIte, Nat.reduceEqDiff, Nat.reduceLT, Nat.reduceAdd, Nat.reduceSub, Nat.reduceMul, Nat.reduceLeDiff, Nat.reducePow, Int.reduceLT, Int.reduceToNat, reduceCtorEq, Int.reduceNeg, Int.reduceEq, Nat.reduceBEq, Nat.reduceBNe, Int.reduceBEq, Int.reduceBNe, String.reduceEq]; done) | (simp only [push_cast, ↓reduceIte, Nat.reduceEqDiff, Nat.reduceLT, Nat.reduceAdd, Nat.reduceSub, Nat.reduceMul, Nat.reduceLeDiff, Nat.reducePow, Int.reduceLT, Int.reduceToNat, reduceCtorEq, Int.reduceNeg, Int.reduceEq, Nat.reduceBEq, Nat.reduceBNe, Int.reduceBEq, Int.reduceBNe, String.reduceEq]; rfl)) ?_
  refine ARun2.go ?_; simp only [push_cast, ↓reduceIte, Nat.reduceEqDiff, Nat.reduceLT, Nat.reduceAdd, Nat.reduceSub, Nat.reduceMul, Nat.reduceLeDiff, Nat.reducePow, Int.reduceLT, Int.reduceToNat, reduceCtorEq, Int.reduceNeg, Int.reduceEq, Nat.reduceBEq, Nat.reduceBNe, Int.reduceBEq, Int.reduceBNe, String.reduceEq]
  refine ARun2.toStr rfl rfl YtldoehmlpdpiaaaGreatDoor.Facts.by40 (by first | (simp only [push_cast, ↓reduceIte, Nat.reduceEqDiff, Nat.reduceLT, Nat.reduceAdd, Nat.reduceSub, Nat.reduceMul, Nat.reduceLeDiff, Nat.reducePow, Int.reduceLT, Int.reduceToNat, reduceCtorEq, Int.reduceNeg, Int.reduceEq, Nat.reduceBEq, Nat.reduceBNe, Int.reduceBEq, Int.reduceBNe, String.reduceEq]; done) | (simp only [push_cast, ↓reduceIte, Nat.reduceEqDiff, Nat.reduceLT, Nat.reduceAdd, Nat.reduceSub, Nat.reduceMul, Nat.reduceLeDiff, Nat.reducePow, Int.reduceLT, Int.reduceToNat, reduceCtorEq, Int.reduceNeg, Int.reduceEq, Nat.reduceBEq, Nat.reduceBNe, Int.reduceBEq, Int.reduceBNe, String.reduceEq]; rfl)) (by first | (simp only [push_cast, ↓reduceIte, Nat.reduceEqDiff, Nat.reduceLT, Nat.reduceAdd, Nat.reduceSub, Nat.reduceMul, Nat.reduceLeDiff, Nat.reducePow, Int.reduceLT, Int.reduceToNat, reduceCtorEq, Int.reduceNeg, Int.reduceEq, Nat.reduceBEq, Nat.reduceBNe, Int.reduceBEq, Int.reduceBNe, String.reduceEq]; done) | (simp only [push_cast, ↓reduceIte, Nat.reduceEqDiff, Nat.reduceLT, Nat.reduceAdd, Nat.reduceSub, Nat.reduceMul, Nat.reduceLeDiff, Nat.reducePow, Int.reduceLT, Int.reduceToNat, reduceCtorEq, Int.reduceNeg, Int.reduceEq, Nat.reduceBEq, Nat.reduceBNe, Int.reduceBEq, Int.reduceBNe, String.reduceEq]; rfl)) ?_
  refine ARun2.go ?_; simp only [push_cast, ↓reduceIte, Nat.reduceEqDiff, Nat.reduceLT, Nat.reduceAdd, Nat.reduceSub, Nat.reduceMul, Nat.reduceLeDiff, Nat.reducePow, Int.reduceLT, Int.reduceToNat, reduceCtorEq, Int.reduceNeg, Int.reduceEq, Nat.reduceBEq, Nat.reduceBNe, Int.reduceBEq, Int.reduceBNe, String.reduceEq]
  rw [bstr_list, bstr_list]
  refine ARun2.nil (hK _ ?_); clear hK K
  refine AWp.ret ⟨_, rfl, ?_⟩
  simp only [push_cast, ↓reduceIte, Nat.reduceEqDiff, Nat.reduceLT, Nat.reduceAdd, Nat.reduceSub, Nat.reduceMul, Nat.reduceLeDiff, Nat.reducePow, Int.reduceLT, Int.reduceToNat, reduceCtorEq, Int.reduceNeg, Int.reduceEq, Nat.reduceBEq, Nat.reduceBNe, Int.reduceBEq, Int.reduceBNe, String.reduceEq]
  congr 2
  by_cases h : l = m <;> simp [h]
end Go.Proofs.YtldoehmlpdpiaaaGreatDoor.C
namespace Go.Abs
inductive GNode where
  | mk (ty : Nat) (data : List UInt8) (kids : List GNode)
namespace GNode
def ty : GNode → Nat | .mk t _ _ => t
def data : GNode → List UInt8 | .mk _ d _ => d
def kids : GNode → List GNode | .mk _ _ k => k
def zero : GNode := .mk 0 [] []
instance : Inhabited GNode := ⟨zero⟩
end GNode
abbrev u16 (n : Nat) : AV := .val (.int .u16 (N n))
abbrev u8 (n : Nat) : AV := .val (.int .u8 (N n))
abbrev bool (b : Bool) : AV := .val (.bool b)
attribute [push_cast] u16 u8 bool
mutual
def nodeA (b : Bool) : GNode → AV
  | .mk t d k => .agg [u16 t, .sl b 1 (bys d), .sl b 3 (nodesA b k)]
def nodesA (b : Bool) : List GNode → List AV
  | [] => []
  | n :: l => nodeA b n :: nodesA b l
end
@[push_cast] theorem nodeA_eq (b : Bool) (n : GNode) : nodeA b n = .agg [u16 n.ty, .sl b 1 (bys n.data), .sl b 3 (nodesA b n.kids)] := by
  cases n; simp [nodeA, GNode.ty, GNode.data, GNode.kids]
theorem nodesA_map (b : Bool) : ∀ l : List GNode, nodesA b l = l.map (nodeA b)
  | [] => by simp [nodesA]
  | n :: l => by rw [nodesA, nodesA_map b l]; rfl
@[push_cast] theorem nodesA_len (b : Bool) (l : List GNode) : (nodesA b l).length = l.length := by rw [nodesA_map]; simp
theorem nodesA_get (b : Bool) (l : List GNode) (i : Nat) : (nodesA b l)[i]? = l[i]?.map (nodeA b) := by rw [nodesA_map]; simp
theorem nodesA_at (b : Bool) (l : List GNode) (i : Nat) (h : i < l.length) : (nodesA b l)[i]? = some (nodeA b l[i]) := by rw [nodesA_get, List.getElem?_eq_getElem h]; rfl
theorem nodesA_head (b : Bool) (l : List GNode) (h : 0 < l.length) : (nodesA b l)[0]? = some (nodeA b (l.headD default)) := by
  cases l with
  | nil => simp at h
  | cons n l => simp [nodesA]
@[push_cast] theorem nodesA_nil (b : Bool) : nodesA b [] = [] := by simp [nodesA]
@[push_cast] theorem nodesA_cons (b : Bool) (n : GNode) (l : List GNode) : nodesA b (n :: l) = nodeA b n :: nodesA b l := by simp [nodesA]
mutual
theorem nodeA_hand (ids : List Nat) (b : Bool) : ∀ n : GNode, (nodeA b n).hand ids = nodeA false n
  | .mk t d k => by simp only [nodeA, AV.hand, AV.handL, bys_hand, nodesA_hand ids b k]
theorem nodesA_hand (ids : List Nat) (b : Bool) : ∀ l : List GNode, AV.handL ids (nodesA b l) = nodesA false l
  | [] => by simp [nodesA, AV.handL]
  | n :: l => by simp only [nodesA, AV.handL, nodeA_hand ids b n, nodesA_hand ids b l]
end
attribute [push_cast] nodesA_hand
mutual
theorem nodeA_ids (p : Nat → Bool) (b : Bool) : ∀ n : GNode, (nodeA b n).idsOk p = true
  | .mk t d k => by simp only [nodeA, AV.idsOk, AV.idsOkL, bys_ids, nodesA_ids p b k, Bool.and_true]
theorem nodesA_ids (p : Nat → Bool) (b : Bool) : ∀ l : List GNode, AV.idsOkL p (nodesA b l) = true
  | [] => by simp [nodesA, AV.idsOkL]
  | n :: l => by simp only [nodesA, AV.idsOkL, nodeA_ids p b n, nodesA_ids p b l, Bool.and_true]
end
attribute [push_cast] nodesA_ids
mutual
theorem nodeA_pl : ∀ n : GNode, (nodeA false n).pl = true
  | .mk t d k => by simp only [nodeA, AV.pl, AV.plL, bys_pl, nodesA_pl k, Bool.and_true, Bool.not_false]
theorem nodesA_pl : ∀ l : List GNode, AV.plL (nodesA false l) = true
  | [] => by simp [nodesA, AV.plL]
  | n :: l => by simp only [nodesA, AV.plL, nodeA_pl n, nodesA_pl l, Bool.and_true]
end
attribute [push_cast] nodesA_pl
structure ShForm where
  cls : Nat
  ty : Nat
  name : ByteArray
  least : Nat
  most : Nat
  unit : Nat
  kids : Nat
@[push_cast] def formA (f : ShForm) : AV := .agg [nat f.cls, u16 f.ty, .val (.string f.name), nat f.least, nat f.most, nat f.unit, nat f.kids]
end Go.Abs
namespace Go.Proofs.YtldoehmlpdpiaaaGreatDoor.C
open Go.Abs
def insideN (k : Nat) : Nat × Nat × Nat :=
  if k = 1 ∨ k = 4 then (1, 1, 1) else if k = 2 then (1, 1, 16384) else if k = 3 then (2, 1, 16384) else (0, 0, 0)
theorem inside_c (k : Nat) (hk : k < 2 ^ 60) : PC Tryz.prog 117 [nat k] (.tup [nat (insideN k).1, nat (insideN k).2.1, nat (insideN k).2.2]) := by
  refine PC.of_bodyW (by simp only [push_cast]) Tryz.func117 rfl (by rw [Tryz.ntmps117]; simp) ?_
  refine AWp.regionW ?_
  refine AWp.seqK fun K1 hK1 => ?_
  refine AWp.regionW ?_
  refine AWp.block ?_
  refine AWp.seqK fun K2 hK2 => ?_
  refine AWp.regionW ?_
  refine AWp.condLM (fun c0 => ?_) (fun c0 => ?_)
  · skip
    refine AWp.skip ?_
    refine hK2 _ ?_
    refine AWp.condT ?_
    refine AWp.regionW ?_
    refine AWp.ret ?_
    try simp only [thenQ, blockQ, noGo]
    refine bodyQ.m ?_
    clear hK2 K2 hK1 K1
    simp_all [insideN]
    first | done | exact Hand.go
  · skip
    refine AWp.regionV ?_
    refine hK2 _ ?_
    refine AWp.condLM (fun c1 => ?_) (fun c1 => ?_)
    · skip
      refine AWp.regionW ?_
      refine AWp.ret ?_
      try simp only [thenQ, blockQ, noGo]
      refine bodyQ.m ?_
      clear hK2 K2 hK1 K1
      simp_all [insideN]
      first | done | exact Hand.go
    · skip
      refine AWp.regionW ?_
      refine AWp.condLM (fun c2 => ?_) (fun c2 => ?_)
      · skip
        refine AWp.regionW ?_
        refine AWp.ret ?_
        try simp only [thenQ, blockQ, noGo]
        refine bodyQ.m ?_
        clear hK2 K2 hK1 K1
        simp_all [insideN]
        first | done | exact Hand.go
      · skip
        refine AWp.regionW ?_
        refine AWp.condLM (fun c3 => ?_) (fun c3 => ?_)
        · skip
          refine AWp.regionW ?_
          refine AWp.ret ?_
          try simp only [thenQ, blockQ, noGo]
          refine bodyQ.m ?_
          clear hK2 K2 hK1 K1
          simp_all [insideN]
          first | done | exact Hand.go
        · skip
          refine AWp.skip ?_
          refine hK1 _ ?_
          refine AWp.regionW ?_
          refine AWp.ret ?_
          try simp only [thenQ, blockQ, noGo]
          refine bodyQ.m ?_
          clear hK2 K2 hK1 K1
          simp_all [insideN]
          first | done | exact Hand.go
def fitsN (f : ShForm) (n : Nat) : Bool := decide (f.least ≤ n) && decide (n ≤ f.most) && ((n - f.least) % f.unit == 0)
theorem fits_c (f : ShForm) (n : Nat) (hn : n < 2 ^ 60) (hl : f.least < 2 ^ 60) (hu : 0 < f.unit) (hu2 : f.unit < 2 ^ 60) : PC Tryz.prog 114 [formA f, nat n] (bool (fitsN f n)) := by
  refine PC.of_bodyW (by simp only [push_cast]) Tryz.func114 rfl (by rw [Tryz.ntmps114]; simp) ?_
  refine AWp.regionW ?_
  refine AWp.regionA fun K1 hK1 => ?_
  refine ARun.segm 5 fun KS hKS => ?_
  refine ARun2.endm (hKS _ ?_); clear hKS KS
  apply ARun.grpM 4 4 true 13 [1, 2, 9]
  · intro g4 KG hKG
    refine ARun2.gom ?_
    exact ARun2.endm (hKG _ Le.grpM)
  refine ARun.segm 2 fun KS hKS => ?_
  refine ARun2.endm (hKS _ ?_); clear hKS KS
  apply ARun.grpM 8 10 true 23 [15]
  · intro g10 KG hKG
    have hle : f.least ≤ n := by simp at g10; omega
    refine ARun2.gom ?_
    exact ARun2.endm (hKG _ Le.grpM)
  refine ARun2.gom ?_
  refine ARun2.endm (hK1 _ ?_)
  refine AWp.ret ?_
  try simp only [thenQ, blockQ, noGo]
  refine bodyQ.m ?_
  clear hK1 K1
  simp only [fitsN]
  first | done | exact Hand.go
def kidsOk (f : ShForm) (l : List GNode) : Bool :=
  decide ((insideN f.kids).2.1 ≤ l.length) && decide (l.length ≤ (insideN f.kids).2.2) && (f.kids != 4 || (l.headD default).ty == 5 || (l.headD default).ty == 6)
theorem kids_c (f : ShForm) (l : List GNode) (hl : l.length < 2 ^ 60) (hf : f.kids < 2 ^ 60) : PC Tryz.prog 115 [formA f, .sl false 3 (nodesA false l)] (bool (kidsOk f l)) := by
  refine PC.of_bodyW (by simp only [push_cast]) Tryz.func115 rfl (by rw [Tryz.ntmps115]; simp) ?_
  refine AWp.regionW ?_
  refine AWp.regionM fun K1 hK1 => ?_
  refine ARun2.callM (inside_c f.kids hf) ?_
  refine ARun2.endm (hK1 _ ?_)
  refine AWp.regionA fun K2 hK2 => ?_
  refine ARun.segm 5 fun KS hKS => ?_
  refine ARun2.endm (hKS _ ?_); clear hKS KS
  apply ARun.grpM 4 4 true 23 [1, 2, 19]
  · intro g4 KG hKG
    refine ARun2.gom ?_
    exact ARun2.endm (hKG _ Le.grpM)
  refine ARun.segm 2 fun KS hKS => ?_
  refine ARun2.endm (hKS _ ?_); clear hKS KS
  apply ARun.grpM 17 10 true 42 [25]
  · intro g10 KG hKG
    refine ARun.segm 4 fun KS hKS => ?_
    refine ARun2.endm (hKS _ ?_); clear hKS KS
    apply ARun.grpM 5 14 false 34 [1, 25, 29]
    · intro g14 KG hKG
      have hne : 0 < l.length := by
        have hk : f.kids = 4 := by simpa using g14
        simp [insideN, hk] at g10
        omega
      refine ARun2.gom ?_
      refine ARun2.indexM (0) (nodeA false (l.headD default)) ?_ ?_
      · exact nodesA_head false l hne
      exact ARun2.endm (hKG _ Le.grpM)
    refine ARun.segm 2 fun KS hKS => ?_
    refine ARun2.endm (hKS _ ?_); clear hKS KS
    apply ARun.grpM 5 21 false 41 [25, 36]
    · intro g21 KG hKG
      have hne : 0 < l.length := by
        have hk : f.kids = 4 := by simp at g21; exact g21.1
        simp [insideN, hk] at g10
        omega
      refine ARun2.gom ?_
      refine ARun2.indexM (0) (nodeA false (l.headD default)) ?_ ?_
      · exact nodesA_head false l hne
      exact ARun2.endm (hKG _ Le.grpM)
    refine ARun2.gom ?_
    exact ARun2.endm (hKG _ Le.grpM)
  refine ARun2.gom ?_
  refine ARun2.endm (hK2 _ ?_)
  refine AWp.ret ?_
  try simp only [thenQ, blockQ, noGo]
  refine bodyQ.m ?_
  clear hK2 K2 hK1 K1
  simp only [kidsOk, Bool.or_assoc]
  first | done | exact Hand.go
abbrev cur (l : List UInt8) (i : Nat) : Ob := .box 208 [.sl false 1 (bys l), nat i]
theorem new_c (l : List UInt8) (hl : l.length ≤ 2 ^ 40) : OC Tryz.prog 127 [.sl false 1 (bys l)] [] (.ptr 0 0) [cur l 0] := by
  refine OC.of_body [0] (by intro k hk; simp at hk) Tryz.func127 rfl (by rw [Tryz.ntmps127]; simp) ?_
  refine AWp.regionW ?_
  refine AWp.regionM fun K1 hK1 => ?_
  refine ARun2.callM (clone_c l hl) ?_
  refine ARun2.endm (hK1 _ ?_)
  refine AWp.ret ?_
  try simp only [thenQ, blockQ, noGo]
  refine bodyQ.m ?_
  clear hK1 K1
  refine endO.m ?_ ?_
  · rfl
  · skip
    first | done | exact Hand.go
theorem left_c (l : List UInt8) (i : Nat) (hi : i ≤ l.length) (hl : l.length ≤ 2 ^ 40) : OC Tryz.prog 133 [.ptr 0 0] [cur l i] (nat (l.length - i)) [cur l i] := by
  refine OC.of_body [0] (by intro k hk; simp at hk; subst hk; rfl) Tryz.func133 rfl (by rw [Tryz.ntmps133]; simp) ?_
  refine AWp.regionW ?_
  refine AWp.seqK fun K1 hK1 => ?_
  refine AWp.regionW ?_
  refine AWp.condF ?_
  refine AWp.skip ?_
  refine hK1 _ ?_
  refine AWp.drS [[(0, none)], [(5, some 0)], [(6, some 1)], [(7, some 2)], [(8, some 3)], [(0, none)], [(10, some 5)], [(11, some 6)], [(12, some 7)], [(9, some 4), (13, some 8)], [(14, some 9)]] fun G hG => ?_
  refine Dr.sim ?_
  try simp only [List.cons_append, List.nil_append]
  refine Dr.sim ?_
  try simp only [List.cons_append, List.nil_append]
  refine Dr.sim ?_
  try simp only [List.cons_append, List.nil_append]
  refine Dr.sim ?_
  try simp only [List.cons_append, List.nil_append]
  refine Dr.sim ?_
  try simp only [List.cons_append, List.nil_append]
  refine Dr.sim ?_
  try simp only [List.cons_append, List.nil_append]
  refine Dr.sim ?_
  try simp only [List.cons_append, List.nil_append]
  refine Dr.sim ?_
  try simp only [List.cons_append, List.nil_append]
  refine Dr.sim ?_
  try simp only [List.cons_append, List.nil_append]
  refine Dr.sim ?_
  try simp only [List.cons_append, List.nil_append]
  refine Dr.sim ?_
  try simp only [List.cons_append, List.nil_append]
  refine Dr.finM (n := 11) [(2, 10)] [] hG YtldoehmlpdpiaaaGreatDoor.Facts.mixed fun KD hKD => ?_
  refine ARun2.endm (hKD _ ?_); clear hKD KD hG G
  refine AWp.ret ?_
  try simp only [thenQ, blockQ, noGo]
  refine bodyQ.m ?_
  clear hK1 K1
  refine endO.m ?_ ?_
  · rfl
  · skip
    try simp only [bys_len]
    first | done | exact Hand.go
def peekN (k : Nat) (l : List UInt8) (i : Nat) : Nat := if i + k ≤ l.length then beN ((l.drop i).take k) else 0
theorem peek_c (k : Nat) (l : List UInt8) (i : Nat) (hk : k = 1 ∨ k = 2 ∨ k = 4) (hi : i ≤ l.length) (hl : l.length ≤ 2 ^ 40) :
    OC Tryz.prog 132 [.ptr 0 0, nat k] [cur l i] (.tup [u32 (peekN k l i), bool (decide (i + k ≤ l.length))]) [cur l i] := by
  have hr : (k == 1 || k == 2 || k == 4) = true := by rcases hk with rfl | rfl | rfl <;> rfl
  have hil : (l.drop i).length = l.length - i := List.length_drop
  refine OC.of_body [0] (by intro k hk; simp at hk; subst hk; rfl) Tryz.func132 rfl (by rw [Tryz.ntmps132]; simp) ?_
  refine AWp.regionW ?_
  refine AWp.seqK fun K1 hK1 => ?_
  refine AWp.regionM fun K2 hK2 => ?_
  refine ARun2.callM (hr ▸ wire_right k) ?_
  refine ARun2.callOM [0] (left_c l i hi hl) ?_
  refine ARun2.endm (hK2 _ ?_)
  refine AWp.condLM (fun c0 => ?_) (fun c0 => ?_)
  · skip
    have hno : ¬ i + k ≤ l.length := by simp at c0; omega
    refine AWp.regionW ?_
    refine AWp.ret ?_
    try simp only [thenQ, blockQ, noGo]
    refine bodyQ.m ?_
    clear hK2 K2 hK1 K1
    refine endO.m ?_ ?_
    · rfl
    · skip
      simp only [peekN, hno, if_false, decide_false]
      first | done | exact Hand.go
  · skip
    have hyes : i + k ≤ l.length := by simp at c0; omega
    have hpos : 0 < (l.drop i).length / k := by rw [hil]; exact Nat.div_pos (by omega) (by omega)
    refine AWp.skip ?_
    refine hK1 _ ?_
    refine AWp.seqK fun K3 hK3 => ?_
    refine AWp.drS [[(1, none)], [(0, none)], [(17, some 1)], [(18, some 2)], [(19, some 3)], [(0, none)], [(21, some 5)], [(22, some 6)], [(23, some 7)], [(20, some 4), (24, some 8)], [(16, some 0), (25, some 9)]] fun G hG => ?_
    refine Dr.sim ?_
    try simp only [List.cons_append, List.nil_append]
    refine Dr.sim ?_
    try simp only [List.cons_append, List.nil_append]
    refine Dr.sim ?_
    try simp only [List.cons_append, List.nil_append]
    refine Dr.sim ?_
    try simp only [List.cons_append, List.nil_append]
    refine Dr.sim ?_
    try simp only [List.cons_append, List.nil_append]
    refine Dr.sim ?_
    try simp only [List.cons_append, List.nil_append]
    refine Dr.sim ?_
    try simp only [List.cons_append, List.nil_append]
    refine Dr.sim ?_
    try simp only [List.cons_append, List.nil_append]
    refine Dr.sim ?_
    try simp only [List.cons_append, List.nil_append]
    refine Dr.sliceLo (i) ?_ ?_
    · rw [bys_len]; omega
    try simp only [List.cons_append, List.nil_append]
    refine Dr.call (numbers_c k (l.drop i)) ?_
    try simp only [List.cons_append, List.nil_append]
    refine Dr.finM (n := 11) [(26, 10)] [4, 5] hG YtldoehmlpdpiaaaGreatDoor.Facts.mixed fun KD hKD => ?_
    refine ARun2.endm (hKD _ ?_); clear hKD KD hG G
    refine AWp.block ?_
    refine AWp.rangeFuncM (numbers_iter k (l.drop i) hk (by omega)) [4, 5] (fun pre ob tr go => pre = [] ∧ ob = [cur l i, .box 23 [.val (.int .u32 0)], .box 4 [.val (.bool false)]]) (fun e ob tr go => e = .ret ∧ ob = [cur l i, .box 23 [u32 (beN ((l.drop i).take k))], .box 4 [.val (.bool true)]]) ?_ ?_ ?_ ?_ ?_
    · exact numYs_ps _
    · exact ⟨rfl, rfl⟩
    · rintro pre x post ob tr go hxs ⟨rfl, rfl⟩
      have hx : (numYs k (l.drop i))[0]? = some x := by rw [hxs]; rfl
      rw [numYs_get hpos] at hx
      simp only [Option.some.injEq, Nat.zero_mul, List.drop_zero] at hx
      subst hx
      refine AWp.regionV ?_
      change AWp _ _ _ _
      refine AWp.block ?_
      refine AWp.regionW ?_
      refine AWp.ret ?_
      try simp only [thenQ, blockQ, noGo]
      refine ⟨_, Le.refl _, ?_⟩
      exact ⟨rfl, rfl⟩
    · rintro ob tr go df ⟨h, _⟩
      have := congrArg List.length h
      rw [numYs_len, nums_len] at this
      simp at this
      omega
    · rintro e ob tr go df ⟨rfl, rfl⟩
      refine bodyQ.m ?_
      refine endO.m ?_ ?_
      · rfl
      · simp only [peekN, hyes, if_true, decide_true]
        exact Hand.go
theorem number_c (k : Nat) (l : List UInt8) (i : Nat) (hk : k = 1 ∨ k = 2 ∨ k = 4) (hi : i ≤ l.length) (hl : l.length ≤ 2 ^ 40) :
    OC Tryz.prog 128 [.ptr 0 0, nat k] [cur l i] (.tup [u32 (peekN k l i), bool (decide (i + k ≤ l.length))]) [cur l (if i + k ≤ l.length then i + k else i)] := by
  refine OC.of_body [0] (by intro k hk; simp at hk; subst hk; rfl) Tryz.func128 rfl (by rw [Tryz.ntmps128]; simp) ?_
  refine AWp.regionW ?_
  refine AWp.regionM fun K1 hK1 => ?_
  refine ARun2.callOM [0] (peek_c k l i hk hi hl) ?_
  refine ARun2.endm (hK1 _ ?_)
  refine AWp.seqK fun K2 hK2 => ?_
  refine AWp.regionW ?_
  refine AWp.condLM (fun c0 => ?_) (fun c0 => ?_)
  · skip
    have hyes : i + k ≤ l.length := of_decide_eq_true c0
    refine AWp.regionV ?_
    refine hK2 _ ?_
    refine AWp.regionW ?_
    refine AWp.ret ?_
    try simp only [thenQ, blockQ, noGo]
    refine bodyQ.m ?_
    clear hK2 K2 hK1 K1
    refine endO.m ?_ ?_
    · first | (rw [if_pos (by assumption)]) | (rw [if_neg (by assumption)])
    · skip
      first | done | exact Hand.go
  · skip
    have hno : ¬ i + k ≤ l.length := of_decide_eq_false c0
    refine AWp.skip ?_
    refine hK2 _ ?_
    refine AWp.regionW ?_
    refine AWp.ret ?_
    try simp only [thenQ, blockQ, noGo]
    refine bodyQ.m ?_
    clear hK2 K2 hK1 K1
    refine endO.m ?_ ?_
    · first | (rw [if_pos (by assumption)]) | (rw [if_neg (by assumption)])
    · skip
      first | done | exact Hand.go
theorem peekN_lt (k : Nat) (l : List UInt8) (i : Nat) (hk : k ≤ 4) : peekN k l i < 2 ^ 32 := by
  unfold peekN
  split
  · refine Nat.lt_of_lt_of_le (beN_lt _) ?_
    have h : ((l.drop i).take k).length ≤ 4 := Nat.le_trans (List.length_take_le _ _) hk
    exact Nat.le_trans (Nat.pow_le_pow_right (by omega) h) (by decide)
  · decide
def countedN (c t : Nat) (d : List UInt8) : Bool := c == 2 && (t == 2 && (!decide (4 ≤ d.length) || peekN 4 d 0 != (d.length - 4) / 2))
theorem counted_c (c t : Nat) (d : List UInt8) (hl : d.length ≤ 2 ^ 40) : PC Tryz.prog 116 [nat c, u16 t, .sl false 1 (bys d)] (bool (countedN c t d)) := by
  have hp := peekN_lt 4 d 0 (by omega)
  refine PC.of_bodyW (by simp only [push_cast]) Tryz.func116 rfl (by rw [Tryz.ntmps116]; simp) ?_
  refine AWp.regionW ?_
  refine AWp.regionM fun K1 hK1 => ?_
  refine ARun2.callOM [] (new_c d hl) ?_
  refine ARun2.callOM [0] (number_c 4 d 0 (by omega) (by omega) hl) ?_
  refine ARun2.endm (hK1 _ ?_)
  refine AWp.regionA fun K2 hK2 => ?_
  refine ARun.segm 3 fun KS hKS => ?_
  refine ARun2.endm (hKS _ ?_); clear hKS KS
  apply ARun.grpM 2 2 true 19 [2, 7, 8, 17]
  · intro g2 KG hKG
    refine ARun2.gom ?_
    exact ARun2.endm (hKG _ Le.grpM)
  refine ARun.segm 2 fun KS hKS => ?_
  refine ARun2.endm (hKS _ ?_); clear hKS KS
  apply ARun.grpM 11 6 true 32 [21]
  · intro g6 KG hKG
    refine ARun.segm 3 fun KS hKS => ?_
    refine ARun2.endm (hKS _ ?_); clear hKS KS
    apply ARun.grpM 7 9 false 31 [21, 24]
    · intro g9 KG hKG
      have h4 : 4 ≤ d.length := by simpa using g9
      refine ARun2.gom ?_
      exact ARun2.endm (hKG _ Le.grpM)
    refine ARun2.gom ?_
    exact ARun2.endm (hKG _ Le.grpM)
  refine ARun2.gom ?_
  refine ARun2.endm (hK2 _ ?_)
  refine AWp.ret ?_
  try simp only [thenQ, blockQ, noGo]
  refine bodyQ.m ?_
  clear hK2 K2 hK1 K1
  simp only [countedN, Nat.zero_add, Bool.and_assoc]
  first | done | exact Hand.go
def tlvSize (l : List Nat) : Nat := sumUp 0 (l.map (4 + ·))
structure Frm where
  ty : Nat
  val : List UInt8
@[push_cast] def frmA (b : Bool) (f : Frm) : AV := .agg [u16 f.ty, .sl b 1 (bys f.val)]
def frmsA (b : Bool) (l : List Frm) : List AV := l.map (frmA b)
@[push_cast] theorem frmsA_len (b : Bool) (l : List Frm) : (frmsA b l).length = l.length := by simp [frmsA]
theorem frmsA_at (b : Bool) (l : List Frm) (i : Nat) (h : i < l.length) : (frmsA b l)[i]? = some (frmA b l[i]) := by simp [frmsA, h]
@[push_cast] theorem frmsA_ids (b : Bool) (p : Nat → Bool) (l : List Frm) : AV.idsOkL p (frmsA b l) = true := by
  rw [AV.idsOkL_iff]; intro x hx; simp only [frmsA, List.mem_map] at hx; obtain ⟨f, _, rfl⟩ := hx; simp [frmA, AV.idsOk, AV.idsOkL, bys_ids]
@[push_cast] theorem frmsA_hand (ids : List Nat) (b : Bool) (l : List Frm) : AV.handL ids (frmsA b l) = frmsA false l := by
  rw [AV.handL_map]; simp [frmsA, frmA, AV.hand, AV.handL, bys_hand]
theorem tlvSize_c (l : List Frm) (h : tlvSize (l.map fun f => f.val.length) < 2 ^ 61) (hl : l.length ≤ 2 ^ 40) (hv : ∀ f ∈ l, f.val.length ≤ 2 ^ 40) : PC Tryz.prog 105 [.sl false 2 (frmsA false l)] (nat (tlvSize (l.map fun f => f.val.length))) := by
  refine PC.of_bodyW (by simp only [push_cast]) Tryz.func105 rfl (by rw [Tryz.ntmps105]; simp) ?_
  refine AWp.regionW ?_
  refine AWp.regionW ?_
  refine AWp.seqK fun K1 hK1 => ?_
  refine AWp.regionW ?_
  refine AWp.block ?_
  -- SLOTS THAT TURN AND ARE NOT TOLD: [3]
  refine AWp.nilOwn 3 3 1 (by simp only [push_cast, ↓reduceIte, Nat.reduceEqDiff, Nat.reduceLT, Nat.reduceAdd, Nat.reduceSub, Nat.reduceMul, Nat.reduceLeDiff, Nat.reducePow, Int.reduceLT, Int.reduceToNat, reduceCtorEq, Int.reduceNeg, Int.reduceEq, Nat.reduceBEq, Nat.reduceBNe, Int.reduceBEq, Int.reduceBNe, String.reduceEq]) ?_
  simp only [push_cast, ↓reduceIte, Nat.reduceEqDiff, Nat.reduceLT, Nat.reduceAdd, Nat.reduceSub, Nat.reduceMul, Nat.reduceLeDiff, Nat.reducePow, Int.reduceLT, Int.reduceToNat, reduceCtorEq, Int.reduceNeg, Int.reduceEq, Nat.reduceBEq, Nat.reduceBNe, Int.reduceBEq, Int.reduceBNe, String.reduceEq]
  refine AWp.loopK [3, 6, 7] (fun (i : Nat) => [(8, nat i)]) (fun i => [.row 3 1 (nats ((l.take i).map fun f => 4 + f.val.length))]) (fun i => i ≤ l.length) (fun i => l.length - i) (0) ?_ (Nat.zero_le _) ?_
  · skip
    refine Le.m 1 ?_ ?_
    · try simp only [push_cast, ↓reduceIte, Nat.reduceEqDiff, Nat.reduceLT, Nat.reduceAdd, Nat.reduceSub, Nat.reduceMul, Nat.reduceLeDiff, Nat.reducePow, Int.reduceLT, Int.reduceToNat, reduceCtorEq, Int.reduceNeg, Int.reduceEq, Nat.reduceBEq, Nat.reduceBNe, Int.reduceBEq, Int.reduceBNe, String.reduceEq]
      try simp (disch := omega) only [w_nat, w_add, w_addl, w_addr, w_sub, w_subl, w_mul, w_mull, w_mulr, w_u32, w_u16, w_u8, w_u32a, N_zero]
      first | done | skip
      rfl
    · exact Go.Abs.evN
  · intro i hi K2 hK2
    refine AWp.regionW ?_
    refine AWp.seqK fun K3 hK3 => ?_
    refine AWp.condLM (fun c0 => ?_) (fun c0 => ?_)
    · skip
      have hil : i < l.length := by simpa using c0
      have hvi := hv l[i] (List.getElem_mem hil)
      refine AWp.skip ?_
      refine hK3 _ ?_
      refine AWp.seqK fun K4 hK4 => ?_
      refine AWp.block ?_
      refine AWp.regionM fun K5 hK5 => ?_
      refine ARun2.indexM (i) (frmA false l[i]) ?_ ?_
      · exact frmsA_at _ _ _ hil
      refine ARun2.endm (hK5 _ ?_)
      refine AWp.regionN fun K6 hK6 => ?_
      refine ARun2.appendM ?_ ?_ ?_
      · rw [YtldoehmlpdpiaaaGreatDoor.Facts.eb56, nats_len, List.length_map, List.length_take, List.length_cons, List.length_nil]; omega
      · rw [nats_len, List.length_map, List.length_take, List.length_cons, List.length_nil]; omega
      refine ARun2.endm (hK6 _ ?_)
      refine hK4 _ ?_
      refine AWp.regionV ?_
      refine hK2 _ (i + 1) (by omega) (by omega) ?_
      refine Le.m 1 ?_ ?_
      · try simp only [push_cast, ↓reduceIte, Nat.reduceEqDiff, Nat.reduceLT, Nat.reduceAdd, Nat.reduceSub, Nat.reduceMul, Nat.reduceLeDiff, Nat.reducePow, Int.reduceLT, Int.reduceToNat, reduceCtorEq, Int.reduceNeg, Int.reduceEq, Nat.reduceBEq, Nat.reduceBNe, Int.reduceBEq, Int.reduceBNe, String.reduceEq]
        try simp (disch := omega) only [w_nat, w_add, w_addl, w_addr, w_sub, w_subl, w_mul, w_mull, w_mulr, w_u32, w_u16, w_u8, w_u32a, N_zero]
        first | done | skip
        rw [List.take_succ_eq_append_getElem hil, List.map_append]; simp [nats]
      · exact Go.Abs.evN
    · skip
      have hil : i = l.length := by simp at c0; omega
      subst hil
      refine AWp.exit ?_
      try simp only [thenQ, blockQ, noGo, reduceIte, Nat.reduceEqDiff]
      refine hK1 _ ?_
      refine AWp.pub 0 rfl (Nat.le_refl _) ?_
      simp only [push_cast, ↓reduceIte, Nat.reduceEqDiff, Nat.reduceLT, Nat.reduceAdd, Nat.reduceSub, Nat.reduceMul, Nat.reduceLeDiff, Nat.reducePow, Int.reduceLT, Int.reduceToNat, reduceCtorEq, Int.reduceNeg, Int.reduceEq, Nat.reduceBEq, Nat.reduceBNe, Int.reduceBEq, Int.reduceBNe, String.reduceEq, List.take_length]
      refine AWp.regionM fun K7 hK7 => ?_
      refine ARun2.callM (pad_sizes (l.map fun f => 4 + f.val.length) (by simpa [tlvSize, List.map_map, Function.comp_def] using h) (by rw [List.length_map]; omega)) ?_
      refine ARun2.endm (hK7 _ ?_)
      refine AWp.ret ?_
      try simp only [thenQ, blockQ, noGo]
      refine bodyQ.m ?_
      clear hK7 K7 hK3 K3 hK2 K2 hK1 K1
      simp only [tlvSize, List.map_map, Function.comp_def]
      first | done | exact Hand.go
end Go.Proofs.YtldoehmlpdpiaaaGreatDoor.C
namespace Go.Abs
def paramForms : List ShForm := [⟨0, 1, ⟨#[104, 101, 97, 114, 116, 98, 101, 97, 116, 45, 105, 110, 102, 111]⟩, 0, 65531, 1, 0⟩,
  ⟨0, 5, ⟨#[105, 112, 118, 52]⟩, 4, 4, 1, 0⟩,
  ⟨0, 6, ⟨#[105, 112, 118, 54]⟩, 16, 16, 1, 0⟩,
  ⟨0, 7, ⟨#[115, 116, 97, 116, 101, 45, 99, 111, 111, 107, 105, 101]⟩, 0, 65531, 1, 0⟩,
  ⟨0, 8, ⟨#[117, 110, 114, 101, 99, 111, 103, 110, 105, 122, 101, 100]⟩, 0, 0, 1, 1⟩,
  ⟨0, 9, ⟨#[99, 111, 111, 107, 105, 101, 45, 112, 114, 101, 115, 101, 114, 118, 97, 116, 105, 118, 101]⟩, 4, 4, 1, 0⟩,
  ⟨0, 11, ⟨#[104, 111, 115, 116, 45, 110, 97, 109, 101]⟩, 1, 65531, 1, 0⟩,
  ⟨0, 12, ⟨#[97, 100, 100, 114, 101, 115, 115, 45, 116, 121, 112, 101, 115]⟩, 2, 65531, 2, 0⟩,
  ⟨0, 13, ⟨#[111, 117, 116, 103, 111, 105, 110, 103, 45, 114, 101, 115, 101, 116]⟩, 12, 65531, 2, 0⟩,
  ⟨0, 14, ⟨#[105, 110, 99, 111, 109, 105, 110, 103, 45, 114, 101, 115, 101, 116]⟩, 4, 65531, 2, 0⟩,
  ⟨0, 15, ⟨#[116, 115, 110, 45, 114, 101, 115, 101, 116]⟩, 4, 4, 1, 0⟩,
  ⟨0, 16, ⟨#[114, 101, 99, 111, 110, 102, 105, 103, 45, 114, 101, 115, 112, 111, 110, 115, 101]⟩, 8, 16, 8, 0⟩,
  ⟨0, 17, ⟨#[97, 100, 100, 45, 111, 117, 116, 103, 111, 105, 110, 103]⟩, 8, 8, 1, 0⟩,
  ⟨0, 18, ⟨#[97, 100, 100, 45, 105, 110, 99, 111, 109, 105, 110, 103]⟩, 8, 8, 1, 0⟩,
  ⟨0, 32768, ⟨#[101, 99, 110]⟩, 0, 0, 1, 0⟩,
  ⟨0, 32770, ⟨#[114, 97, 110, 100, 111, 109]⟩, 1, 65531, 1, 0⟩,
  ⟨0, 32771, ⟨#[99, 104, 117, 110, 107, 45, 108, 105, 115, 116]⟩, 0, 65531, 1, 0⟩,
  ⟨0, 32772, ⟨#[104, 109, 97, 99, 45, 97, 108, 103, 111, 114, 105, 116, 104, 109, 115]⟩, 2, 65531, 2, 0⟩,
  ⟨0, 32773, ⟨#[112, 97, 100, 100, 105, 110, 103]⟩, 0, 65531, 1, 0⟩,
  ⟨0, 32776, ⟨#[101, 120, 116, 101, 110, 115, 105, 111, 110, 115]⟩, 0, 65531, 1, 0⟩,
  ⟨0, 49152, ⟨#[102, 111, 114, 119, 97, 114, 100, 45, 116, 115, 110]⟩, 0, 0, 1, 0⟩,
  ⟨0, 49153, ⟨#[97, 100, 100, 45, 105, 112]⟩, 4, 4, 1, 4⟩,
  ⟨0, 49154, ⟨#[100, 101, 108, 101, 116, 101, 45, 105, 112]⟩, 4, 4, 1, 4⟩,
  ⟨0, 49155, ⟨#[101, 114, 114, 111, 114, 45, 105, 110, 100, 105, 99, 97, 116, 105, 111, 110]⟩, 4, 4, 1, 3⟩,
  ⟨0, 49156, ⟨#[115, 101, 116, 45, 112, 114, 105, 109, 97, 114, 121]⟩, 4, 4, 1, 4⟩,
  ⟨0, 49157, ⟨#[115, 117, 99, 99, 101, 115, 115]⟩, 4, 4, 1, 0⟩,
  ⟨0, 49158, ⟨#[97, 100, 97, 112, 116, 97, 116, 105, 111, 110]⟩, 4, 4, 1, 0⟩]
def causeForms : List ShForm := [⟨0, 1, ⟨#[105, 110, 118, 97, 108, 105, 100, 45, 115, 116, 114, 101, 97, 109]⟩, 4, 4, 1, 0⟩,
  ⟨0, 2, ⟨#[109, 105, 115, 115, 105, 110, 103, 45, 112, 97, 114, 97, 109, 101, 116, 101, 114]⟩, 6, 65531, 2, 0⟩,
  ⟨0, 3, ⟨#[115, 116, 97, 108, 101, 45, 99, 111, 111, 107, 105, 101]⟩, 4, 4, 1, 0⟩,
  ⟨0, 4, ⟨#[111, 117, 116, 45, 111, 102, 45, 114, 101, 115, 111, 117, 114, 99, 101]⟩, 0, 0, 1, 0⟩,
  ⟨0, 5, ⟨#[117, 110, 114, 101, 115, 111, 108, 118, 97, 98, 108, 101, 45, 97, 100, 100, 114, 101, 115, 115]⟩, 0, 0, 1, 1⟩,
  ⟨0, 6, ⟨#[117, 110, 114, 101, 99, 111, 103, 110, 105, 122, 101, 100, 45, 99, 104, 117, 110, 107]⟩, 4, 65531, 1, 0⟩,
  ⟨0, 7, ⟨#[105, 110, 118, 97, 108, 105, 100, 45, 112, 97, 114, 97, 109, 101, 116, 101, 114]⟩, 0, 0, 1, 0⟩,
  ⟨0, 8, ⟨#[117, 110, 114, 101, 99, 111, 103, 110, 105, 122, 101, 100, 45, 112, 97, 114, 97, 109, 101, 116, 101, 114, 115]⟩, 0, 0, 1, 2⟩,
  ⟨0, 9, ⟨#[110, 111, 45, 117, 115, 101, 114, 45, 100, 97, 116, 97]⟩, 4, 4, 1, 0⟩,
  ⟨0, 10, ⟨#[99, 111, 111, 107, 105, 101, 45, 119, 104, 105, 108, 101, 45, 115, 104, 117, 116, 116, 105, 110, 103, 45, 100, 111, 119, 110]⟩, 0, 0, 1, 0⟩,
  ⟨0, 11, ⟨#[114, 101, 115, 116, 97, 114, 116]⟩, 0, 0, 1, 2⟩,
  ⟨0, 12, ⟨#[117, 115, 101, 114, 45, 97, 98, 111, 114, 116]⟩, 0, 65531, 1, 0⟩,
  ⟨0, 13, ⟨#[112, 114, 111, 116, 111, 99, 111, 108, 45, 118, 105, 111, 108, 97, 116, 105, 111, 110]⟩, 0, 65531, 1, 0⟩,
  ⟨0, 160, ⟨#[100, 101, 108, 101, 116, 101, 45, 108, 97, 115, 116, 45, 97, 100, 100, 114, 101, 115, 115]⟩, 0, 0, 1, 1⟩,
  ⟨0, 161, ⟨#[114, 101, 115, 111, 117, 114, 99, 101, 45, 115, 104, 111, 114, 116, 97, 103, 101]⟩, 0, 65531, 1, 0⟩,
  ⟨0, 162, ⟨#[100, 101, 108, 101, 116, 101, 45, 115, 111, 117, 114, 99, 101, 45, 97, 100, 100, 114, 101, 115, 115]⟩, 0, 0, 1, 1⟩,
  ⟨0, 163, ⟨#[105, 108, 108, 101, 103, 97, 108, 45, 97, 115, 99, 111, 110, 102, 45, 97, 99, 107]⟩, 0, 65531, 1, 0⟩,
  ⟨0, 164, ⟨#[110, 111, 45, 97, 117, 116, 104, 111, 114, 105, 122, 97, 116, 105, 111, 110]⟩, 0, 65531, 1, 0⟩,
  ⟨0, 261, ⟨#[117, 110, 115, 117, 112, 112, 111, 114, 116, 101, 100, 45, 104, 109, 97, 99]⟩, 2, 2, 1, 0⟩]
def formsN : Nat → List ShForm
  | 1 => paramForms
  | 2 => causeForms
  | _ => []
def formsA (l : List ShForm) : List AV := l.map formA
@[push_cast] theorem formsA_len (l : List ShForm) : (formsA l).length = l.length := by simp [formsA]
theorem formsA_at (l : List ShForm) (i : Nat) (h : i < l.length) : (formsA l)[i]? = some (formA l[i]) := by simp [formsA, h]
@[push_cast] theorem formsA_ids (p : Nat → Bool) (l : List ShForm) : AV.idsOkL p (formsA l) = true := by
  rw [AV.idsOkL_iff]; intro x hx; simp only [formsA, List.mem_map] at hx; obtain ⟨f, _, rfl⟩ := hx; rfl
@[push_cast] theorem formsA_hand (ids : List Nat) (l : List ShForm) : AV.handL ids (formsA l) = formsA l := by
  rw [AV.handL_map, formsA, List.map_map]; rfl
def formV (c : Nat) (f : ShForm) : Value := .agg #[.int .i64 (N c), .int .u16 (N f.ty), .string f.name, .int .i64 (N f.least), .int .i64 (N f.most), .int .i64 (N f.unit), .int .i64 (N f.kids)]
def entryV (c : Nat) (f : ShForm) : Value × Value := (.int .u16 (N f.ty), formV c f)
def zeroForm : ShForm := ⟨0, 0, ⟨#[]⟩, 0, 0, 0, 0⟩
def shapeOf (c t : Nat) : ShForm := (((formsN c).find? fun f => f.ty == t).map fun f => { f with cls := c }).getD zeroForm
def shapeHas (c t : Nat) : Bool := ((formsN c).find? fun f => f.ty == t).isSome
theorem mpFree_entries (c n : Nat) : ∀ l : List ShForm, (∀ f ∈ l, f.ty ≠ n) → mpFree .u16 (N n) (l.map (entryV c)) = true
  | [], _ => rfl
  | f :: l, h => by
    simp only [List.map_cons, entryV, mpFree, Bool.and_eq_true, decide_eq_true_eq]
    refine ⟨⟨trivial, ?_⟩, mpFree_entries c n l fun g hg => h g (by simp [hg])⟩
    rw [ne_eq, N_inj]; exact h f (by simp)
theorem mpFind_entries (c n : Nat) : ∀ l : List ShForm, mpFind .u16 (N n) (l.map (entryV c)) = some ((l.find? fun f => f.ty == n).map (formV c))
  | [] => rfl
  | f :: l => by
    simp only [List.map_cons, entryV, mpFind, if_true, N_inj, List.find?_cons]
    by_cases h : f.ty = n
    · simp [h]
    · have h' : (f.ty == n) = false := by simpa using h
      simp only [h, if_false, h', mpFind_entries c n l]
theorem forms_nodup (c : Nat) : ((formsN c).map (·.ty)).Nodup := by
  match c with
  | 0 => decide
  | 1 => decide
  | 2 => decide
  | _ + 3 => exact List.nodup_nil
theorem forms_free (c i : Nat) (h : i < (formsN c).length) : ∀ f ∈ (formsN c).take i, f.ty ≠ (formsN c)[i].ty := by
  intro f hf he
  have hn := forms_nodup c
  obtain ⟨j, hj, rfl⟩ := List.getElem_of_mem hf
  rw [List.length_take] at hj
  rw [List.getElem_take] at he
  have h1 : j = i := (List.getElem_inj (xs := (formsN c).map (·.ty)) (i := j) (j := i) (h₀ := by simp; omega) (h₁ := by simpa using h) hn).1 (by simpa using he)
  omega
end Go.Abs
namespace Go.Proofs.YtldoehmlpdpiaaaGreatDoor.C
open Go.Abs
set_option maxRecDepth 100000 in
set_option maxHeartbeats 1000000 in
theorem table_c : PC Tryz.prog 120 [] (.agg [.val (.slice none 0 0), .sl false 7 (formsA paramForms), .sl false 7 (formsA causeForms)]) := by
  refine PC.of_bodyW (by simp only [push_cast]) Tryz.func120 rfl (by rw [Tryz.ntmps120]; simp) ?_
  refine AWp.regionW ?_
  refine AWp.regionW ?_
  refine AWp.ret ?_
  try simp only [thenQ, blockQ, noGo]
  refine bodyQ.m ?_
  simp only [formsA, paramForms, causeForms, List.map_cons, List.map_nil]
  first | done | exact Hand.go
theorem forms_c (c : Nat) (hc : c = 1 ∨ c = 2) : OC Tryz.prog 106 [nat c] [] (.own 0) [.mp ((formsN c).map (entryV c))] := by
  have hc3 : c < 3 := by omega
  have hl : (formsN c).length < 2 ^ 60 := by rcases hc with rfl | rfl <;> decide
  refine OC.of_body [0] (by intro k hk; simp at hk) Tryz.func106 rfl (by rw [Tryz.ntmps106]; simp) ?_
  refine AWp.regionW ?_
  refine AWp.regionM fun K1 hK1 => ?_
  refine ARun2.makeMapM ?_
  refine ARun2.endm (hK1 _ ?_)
  refine AWp.seqK fun K2 hK2 => ?_
  refine AWp.regionM fun K3 hK3 => ?_
  refine ARun2.callM (table_c) ?_
  refine ARun2.endm (hK3 _ ?_)
  refine AWp.condF ?_ (by simp only [push_cast, ↓reduceIte, Nat.reduceEqDiff, Nat.reduceLT, Nat.reduceAdd, Nat.reduceSub, Nat.reduceMul, Nat.reduceLeDiff, Nat.reducePow, Int.reduceLT, Int.reduceToNat, reduceCtorEq, Int.reduceNeg, Int.reduceEq, Nat.reduceBEq, Nat.reduceBNe, Int.reduceBEq, Int.reduceBNe, String.reduceEq]; rw [decide_eq_false (by omega)])
  refine AWp.skip ?_
  refine hK2 _ ?_
  refine AWp.seqK fun K4 hK4 => ?_
  refine AWp.regionM fun K5 hK5 => ?_
  refine ARun2.callM (table_c) ?_
  refine ARun2.aindexM (c) (.sl false 7 (formsA (formsN c))) ?_ ?_
  · rw [YtldoehmlpdpiaaaGreatDoor.Facts.tk181]; rcases hc with rfl | rfl <;> rfl
  refine ARun2.endm (hK5 _ ?_)
  refine AWp.block ?_
  refine AWp.loopK [0, 3, 18, 19] (fun (i : Nat) => [(20, nat i)]) (fun i => [.mp (((formsN c).take i).map (entryV c))]) (fun i => i ≤ (formsN c).length) (fun i => (formsN c).length - i) (0) ?_ (Nat.zero_le _) ?_
  · skip
    refine Le.m 1 ?_ ?_
    · exact Go.Abs.evM
    · exact Go.Abs.evN
  · intro i hi K6 hK6
    refine AWp.regionW ?_
    refine AWp.seqK fun K7 hK7 => ?_
    refine AWp.condLM (fun c1 => ?_) (fun c1 => ?_)
    · skip
      have hil : i < (formsN c).length := by simpa using c1
      refine AWp.skip ?_
      refine hK7 _ ?_
      refine AWp.seqK fun K8 hK8 => ?_
      refine AWp.block ?_
      refine AWp.regionM fun K9 hK9 => ?_
      refine ARun2.indexM (i) (formA (formsN c)[i]) ?_ ?_
      · exact formsA_at _ _ hil
      refine ARun2.endm (hK9 _ ?_)
      refine AWp.regionW ?_
      refine AWp.regionN fun K10 hK10 => ?_
      refine ARun2.mapUpdateM ?_ ?_
      · exact mpFree_entries c _ _ (forms_free c i hil)
      refine ARun2.endm (hK10 _ ?_)
      refine hK8 _ ?_
      refine AWp.regionV ?_
      refine hK6 _ (i + 1) (by omega) (by omega) ?_
      refine Le.m 1 ?_ ?_
      · try simp only [push_cast, ↓reduceIte, Nat.reduceEqDiff, Nat.reduceLT, Nat.reduceAdd, Nat.reduceSub, Nat.reduceMul, Nat.reduceLeDiff, Nat.reducePow, Int.reduceLT, Int.reduceToNat, reduceCtorEq, Int.reduceNeg, Int.reduceEq, Nat.reduceBEq, Nat.reduceBNe, Int.reduceBEq, Int.reduceBNe, String.reduceEq]
        try simp (disch := omega) only [w_nat, w_add, w_addl, w_addr, w_sub, w_subl, w_mul, w_mull, w_mulr, w_u32, w_u16, w_u8, w_u32a, N_zero]
        first | done | skip
        rw [List.take_succ_eq_append_getElem hil, List.map_append]; rfl
      · exact Go.Abs.evN
    · skip
      have hil : i = (formsN c).length := by simp at c1; omega
      refine AWp.exit ?_
      try simp only [thenQ, blockQ, noGo, reduceIte, Nat.reduceEqDiff]
      refine hK4 _ ?_
      refine AWp.regionW ?_
      refine AWp.ret ?_
      try simp only [thenQ, blockQ, noGo]
      refine bodyQ.m ?_
      clear hK7 K7 hK6 K6 hK5 K5 hK4 K4 hK3 K3 hK2 K2 hK1 K1
      refine endO.m ?_ ?_
      · rw [hil, List.take_length]
      · skip
        first | done | exact Hand.go
theorem of_c (c t : Nat) (hc : c = 1 ∨ c = 2) : PC Tryz.prog 91 [nat c, u16 t] (.tup [formA (shapeOf c t), bool (shapeHas c t)]) := by
  refine PC.of_bodyW (by simp only [push_cast]) Tryz.func91 rfl (by rw [Tryz.ntmps91]; simp) ?_
  refine AWp.regionW ?_
  refine AWp.regionM fun K1 hK1 => ?_
  refine ARun2.callOM [] (forms_c c hc) ?_
  refine ARun2.lookupM (((formsN c).find? fun f => f.ty == t).map (formV c)) (formA (shapeOf c t)) ?_ ?_ ?_
  · exact mpFind_entries c t _
  · simp only [shapeOf]; cases (formsN c).find? (fun f => f.ty == t) <;> rfl
  refine ARun2.endm (hK1 _ ?_)
  refine AWp.regionW ?_
  refine AWp.ret ?_
  try simp only [thenQ, blockQ, noGo]
  refine bodyQ.m ?_
  clear hK1 K1
  simp only [shapeHas, Option.isSome_map]
  first | done | exact Hand.go
end Go.Proofs.YtldoehmlpdpiaaaGreatDoor.C
namespace Go.Abs
mutual
def GNode.wt : GNode → Nat
  | .mk _ _ k => wts k + 1
def wts : List GNode → Nat
  | [] => 0
  | n :: l => n.wt + wts l
end
theorem GNode.wt_eq (n : GNode) : n.wt = wts n.kids + 1 := by cases n; simp [GNode.wt, GNode.kids]
theorem wts_mem : ∀ {l : List GNode} {n : GNode}, n ∈ l → n.wt ≤ wts l
  | [], n, h => by simp at h
  | m :: l, n, h => by
    rcases List.mem_cons.1 h with h | h
    · subst h; simp only [wts]; omega
    · have := wts_mem h; simp only [wts]; omega
theorem kids_lt {l : List GNode} {n : GNode} (h : n ∈ l) : wts n.kids < wts l := by
  have := wts_mem h; rw [GNode.wt_eq] at this; omega
end Go.Abs
namespace Go.Proofs.YtldoehmlpdpiaaaGreatDoor.C
open Go.Abs
mutual
def vlen : GNode → Nat
  | .mk _ d k => d.length + tlvSize (nLens k)
def nLens : List GNode → List Nat
  | [] => []
  | n :: l => vlen n :: nLens l
end
def nSize (l : List GNode) : Nat := tlvSize (nLens l)
theorem nLens_map : ∀ l : List GNode, nLens l = l.map vlen
  | [] => by simp [nLens]
  | n :: l => by simp [nLens, nLens_map l]
theorem vlen_eq (n : GNode) : vlen n = n.data.length + nSize n.kids := by cases n; simp [vlen, nSize, GNode.data, GNode.kids]
theorem sumUp_mem : ∀ {l : List Nat} {s n : Nat}, n ∈ l → n ≤ sumUp s l
  | [], s, n, h => by simp at h
  | m :: l, s, n, h => by
    simp only [sumUp]
    rcases List.mem_cons.1 h with h | h
    · subst h; exact Nat.le_trans (by omega) (le_sumUp l _)
    · exact sumUp_mem h
theorem sumUp_len : ∀ (l : List Nat) (s : Nat), s + 4 * l.length ≤ sumUp s (l.map (4 + ·))
  | [], s => by simp [sumUp]
  | n :: l, s => by
    have := sumUp_len l (upN s + (4 + n))
    simp only [List.map_cons, sumUp, List.length_cons, upN] at *
    omega
theorem tlvSize_mem {l : List Nat} {n : Nat} (h : n ∈ l) : 4 + n ≤ tlvSize l := sumUp_mem (List.mem_map.2 ⟨n, h, rfl⟩)
theorem tlvSize_len (l : List Nat) : 4 * l.length ≤ tlvSize l := by have := sumUp_len l 0; simpa [tlvSize] using this
theorem vlen_mem {l : List GNode} {n : GNode} (h : n ∈ l) : 4 + vlen n ≤ nSize l := tlvSize_mem (by rw [nLens_map]; exact List.mem_map.2 ⟨n, h, rfl⟩)
theorem nSize_len (l : List GNode) : 4 * l.length ≤ nSize l := by have := tlvSize_len (nLens l); rw [nLens_map, List.length_map] at this; rw [nSize, nLens_map]; exact this
theorem nSize_kids {l : List GNode} {n : GNode} (h : n ∈ l) : nSize n.kids ≤ nSize l := by have := vlen_mem h; rw [vlen_eq] at this; omega
def zf (n : GNode) : Frm := ⟨0, List.replicate (vlen n) 0⟩
theorem size_step (w : Nat) (ih : ∀ l : List GNode, wts l < w → nSize l ≤ 2 ^ 30 → PC Tryz.prog 89 [.sl false 3 (nodesA false l)] (nat (nSize l))) (l : List GNode) (hw : wts l ≤ w) (hs : nSize l ≤ 2 ^ 30) :
    PC Tryz.prog 89 [.sl false 3 (nodesA false l)] (nat (nSize l)) := by
  have hlen := nSize_len l
  refine PC.of_bodyW (by simp only [push_cast]) Tryz.func89 rfl (by rw [Tryz.ntmps89]; simp) ?_
  refine AWp.regionW ?_
  refine AWp.regionW ?_
  refine AWp.seqK fun K1 hK1 => ?_
  refine AWp.regionW ?_
  refine AWp.block ?_
  -- SLOTS THAT TURN AND ARE NOT TOLD: [3]
  refine AWp.nilOwn 3 152 2 (by simp only [push_cast, ↓reduceIte, Nat.reduceEqDiff, Nat.reduceLT, Nat.reduceAdd, Nat.reduceSub, Nat.reduceMul, Nat.reduceLeDiff, Nat.reducePow, Int.reduceLT, Int.reduceToNat, reduceCtorEq, Int.reduceNeg, Int.reduceEq, Nat.reduceBEq, Nat.reduceBNe, Int.reduceBEq, Int.reduceBNe, String.reduceEq]) ?_
  simp only [push_cast, ↓reduceIte, Nat.reduceEqDiff, Nat.reduceLT, Nat.reduceAdd, Nat.reduceSub, Nat.reduceMul, Nat.reduceLeDiff, Nat.reducePow, Int.reduceLT, Int.reduceToNat, reduceCtorEq, Int.reduceNeg, Int.reduceEq, Nat.reduceBEq, Nat.reduceBNe, Int.reduceBEq, Int.reduceBNe, String.reduceEq]
  refine AWp.loopK [3, 6, 7] (fun (i : Nat) => [(8, nat i)]) (fun i => [.row 152 2 (frmsA true ((l.take i).map zf))]) (fun i => i ≤ l.length) (fun i => l.length - i) (0) ?_ (Nat.zero_le _) ?_
  · skip
    refine Le.m 1 ?_ ?_
    · try simp only [push_cast, ↓reduceIte, Nat.reduceEqDiff, Nat.reduceLT, Nat.reduceAdd, Nat.reduceSub, Nat.reduceMul, Nat.reduceLeDiff, Nat.reducePow, Int.reduceLT, Int.reduceToNat, reduceCtorEq, Int.reduceNeg, Int.reduceEq, Nat.reduceBEq, Nat.reduceBNe, Int.reduceBEq, Int.reduceBNe, String.reduceEq]
      try simp (disch := omega) only [w_nat, w_add, w_addl, w_addr, w_sub, w_subl, w_mul, w_mull, w_mulr, w_u32, w_u16, w_u8, w_u32a, N_zero]
      first | done | skip
      rfl
    · exact Go.Abs.evN
  · intro i hi K2 hK2
    refine AWp.regionW ?_
    refine AWp.seqK fun K3 hK3 => ?_
    refine AWp.condLM (fun c0 => ?_) (fun c0 => ?_)
    · skip
      have hil : i < l.length := by simpa using c0
      have hm := List.getElem_mem hil
      have hv := vlen_mem hm
      have he := vlen_eq l[i]
      have hk := nSize_kids hm
      refine AWp.skip ?_
      refine hK3 _ ?_
      refine AWp.seqK fun K4 hK4 => ?_
      refine AWp.block ?_
      refine AWp.regionM fun K5 hK5 => ?_
      refine ARun2.indexM (i) (nodeA false l[i]) ?_ ?_
      · exact nodesA_at _ _ _ hil
      refine ARun2.endm (hK5 _ ?_)
      refine AWp.drE [[(3, none)], [(5, none)], [(13, some 1)], [(14, some 2)], [(5, none)], [(16, some 4)], [(17, some 5)], [(15, some 3), (18, some 6)], [(19, some 7)], [(20, some 8)], [(21, some 9)]] fun G hG => ?_
      refine Dr.sim ?_
      try simp only [List.cons_append, List.nil_append]
      refine Dr.sim ?_
      try simp only [List.cons_append, List.nil_append]
      refine Dr.sim ?_
      try simp only [List.cons_append, List.nil_append]
      refine Dr.sim ?_
      try simp only [List.cons_append, List.nil_append]
      refine Dr.sim ?_
      try simp only [List.cons_append, List.nil_append]
      refine Dr.sim ?_
      try simp only [List.cons_append, List.nil_append]
      refine Dr.call (ih l[i].kids (by have := kids_lt hm; omega) (by omega)) ?_
      try simp only [List.cons_append, List.nil_append]
      refine Dr.sim ?_
      try simp only [List.cons_append, List.nil_append]
      rw [← he]
      refine Dr.make (vlen l[i]) ?_ ?_
      · omega
      try simp only [List.cons_append, List.nil_append]
      refine Dr.sim ?_
      try simp only [List.cons_append, List.nil_append]
      refine Dr.build ?_
      try simp only [List.cons_append, List.nil_append]
      refine Dr.finN (n := 11) [(12, 0), (22, 10)] [6, 7, 8] hG YtldoehmlpdpiaaaGreatDoor.Facts.mixed fun KD hKD => ?_
      refine ARun2.appendM ?_ ?_ ?_
      · rw [YtldoehmlpdpiaaaGreatDoor.Facts.eb129, frmsA_len, List.length_map, List.length_take, List.length_cons, List.length_nil]; omega
      · rw [frmsA_len, List.length_map, List.length_take, List.length_cons, List.length_nil]; omega
      refine ARun2.endm (hKD _ ?_); clear hKD KD hG G
      refine hK4 _ ?_
      refine AWp.regionV ?_
      refine hK2 _ (i + 1) (by omega) (by omega) ?_
      refine Le.m 1 ?_ ?_
      · try simp only [push_cast, ↓reduceIte, Nat.reduceEqDiff, Nat.reduceLT, Nat.reduceAdd, Nat.reduceSub, Nat.reduceMul, Nat.reduceLeDiff, Nat.reducePow, Int.reduceLT, Int.reduceToNat, reduceCtorEq, Int.reduceNeg, Int.reduceEq, Nat.reduceBEq, Nat.reduceBNe, Int.reduceBEq, Int.reduceBNe, String.reduceEq]
        try simp (disch := omega) only [w_nat, w_add, w_addl, w_addr, w_sub, w_subl, w_mul, w_mull, w_mulr, w_u32, w_u16, w_u8, w_u32a, N_zero]
        first | done | skip
        rw [List.take_succ_eq_append_getElem hil, List.map_append]; simp [frmsA, frmA, zf, N]
      · exact Go.Abs.evN
    · skip
      have hil : i = l.length := by simp at c0; omega
      subst hil
      refine AWp.exit ?_
      try simp only [thenQ, blockQ, noGo, reduceIte, Nat.reduceEqDiff]
      refine hK1 _ ?_
      refine AWp.pub 0 rfl (Nat.le_refl _) ?_
      simp only [push_cast, ↓reduceIte, Nat.reduceEqDiff, Nat.reduceLT, Nat.reduceAdd, Nat.reduceSub, Nat.reduceMul, Nat.reduceLeDiff, Nat.reducePow, Int.reduceLT, Int.reduceToNat, reduceCtorEq, Int.reduceNeg, Int.reduceEq, Nat.reduceBEq, Nat.reduceBNe, Int.reduceBEq, Int.reduceBNe, String.reduceEq, List.take_length]
      refine AWp.regionM fun K6 hK6 => ?_
      have hz : tlvSize ((l.map zf).map fun f => f.val.length) = nSize l := by rw [nSize, nLens_map]; simp [List.map_map, Function.comp_def, zf]
      refine ARun2.callM (tlvSize_c (l.map zf) (by have := hz; omega) (by rw [List.length_map]; omega) (by intro f hf; obtain ⟨n, hn, rfl⟩ := List.mem_map.1 hf; have := vlen_mem hn; simp [zf]; omega)) ?_
      refine ARun2.endm (hK6 _ ?_)
      refine AWp.ret ?_
      try simp only [thenQ, blockQ, noGo]
      refine bodyQ.m ?_
      clear hK6 K6 hK3 K3 hK2 K2 hK1 K1
      rw [hz]
      first | done | exact Hand.go
theorem size_w : ∀ (w : Nat) (l : List GNode), wts l ≤ w → nSize l ≤ 2 ^ 30 → PC Tryz.prog 89 [.sl false 3 (nodesA false l)] (nat (nSize l)) := by
  intro w
  induction w with
  | zero => exact size_step 0 (fun l h => by omega)
  | succ w ih => exact size_step (w + 1) (fun l h => ih l (by omega))
theorem size_c (l : List GNode) (hs : nSize l ≤ 2 ^ 30) : PC Tryz.prog 89 [.sl false 3 (nodesA false l)] (nat (nSize l)) := size_w _ l (Nat.le_refl _) hs
end Go.Proofs.YtldoehmlpdpiaaaGreatDoor.C
