/- Closed facts on the translation's types and functions, for the evaluation; written by a program of this claim's author. -/
import Derived.Test.YtmcedkcehcacpaaProg
import Derived.Test.YtmcedkcehcacpaaAbs25
import Derived.KernelRfl
namespace Go.Proofs.Ytmcedkcehcacpaa.Facts
open Go.Abs
@[push_cast] theorem tk1 : tk Try.prog 1 = .scal := by kernel_rfl
@[push_cast] theorem zc1 : zc Try.prog 1 = some [.nilFunc] := by kernel_rfl
@[push_cast] theorem nk1 : nk Try.prog 1 = .fnc := by kernel_rfl
@[push_cast] theorem cc1 : Go.Abs.concrete Try.prog 1 = true := by kernel_rfl
@[push_cast] theorem isl1 : isSlc Try.prog 1 = false := by kernel_rfl
@[push_cast] theorem ist1 : isStr Try.prog 1 = false := by kernel_rfl
@[push_cast] theorem ik1 : ikd Try.prog 1 = none := by kernel_rfl
@[push_cast] theorem tk2 : tk Try.prog 2 = .scal := by kernel_rfl
@[push_cast] theorem zc2 : zc Try.prog 2 = some [.int .i64 0] := by kernel_rfl
@[push_cast] theorem nk2 : nk Try.prog 2 = .other := by kernel_rfl
@[push_cast] theorem cc2 : Go.Abs.concrete Try.prog 2 = true := by kernel_rfl
@[push_cast] theorem isl2 : isSlc Try.prog 2 = false := by kernel_rfl
@[push_cast] theorem ist2 : isStr Try.prog 2 = false := by kernel_rfl
@[push_cast] theorem ik2 : ikd Try.prog 2 = some .i64 := by kernel_rfl
@[push_cast] theorem tk3 : tk Try.prog 3 = .scal := by kernel_rfl
@[push_cast] theorem zc3 : zc Try.prog 3 = some [.int .i64 0] := by kernel_rfl
@[push_cast] theorem nk3 : nk Try.prog 3 = .other := by kernel_rfl
@[push_cast] theorem cc3 : Go.Abs.concrete Try.prog 3 = true := by kernel_rfl
@[push_cast] theorem isl3 : isSlc Try.prog 3 = false := by kernel_rfl
@[push_cast] theorem ist3 : isStr Try.prog 3 = false := by kernel_rfl
@[push_cast] theorem ik3 : ikd Try.prog 3 = some .i64 := by kernel_rfl
@[push_cast] theorem tk4 : tk Try.prog 4 = .scal := by kernel_rfl
@[push_cast] theorem zc4 : zc Try.prog 4 = some [.bool false] := by kernel_rfl
@[push_cast] theorem nk4 : nk Try.prog 4 = .other := by kernel_rfl
@[push_cast] theorem cc4 : Go.Abs.concrete Try.prog 4 = true := by kernel_rfl
@[push_cast] theorem isl4 : isSlc Try.prog 4 = false := by kernel_rfl
@[push_cast] theorem ist4 : isStr Try.prog 4 = false := by kernel_rfl
@[push_cast] theorem ik4 : ikd Try.prog 4 = none := by kernel_rfl
@[push_cast] theorem tk5 : tk Try.prog 5 = .scal := by kernel_rfl
@[push_cast] theorem zc5 : zc Try.prog 5 = some [.int .u8 0] := by kernel_rfl
@[push_cast] theorem nk5 : nk Try.prog 5 = .other := by kernel_rfl
@[push_cast] theorem cc5 : Go.Abs.concrete Try.prog 5 = true := by kernel_rfl
@[push_cast] theorem isl5 : isSlc Try.prog 5 = false := by kernel_rfl
@[push_cast] theorem ist5 : isStr Try.prog 5 = false := by kernel_rfl
@[push_cast] theorem ik5 : ikd Try.prog 5 = some .u8 := by kernel_rfl
@[push_cast] theorem tk6 : tk Try.prog 6 = .scal := by kernel_rfl
@[push_cast] theorem zc6 : zc Try.prog 6 = some [.int .u8 0] := by kernel_rfl
@[push_cast] theorem nk6 : nk Try.prog 6 = .other := by kernel_rfl
@[push_cast] theorem cc6 : Go.Abs.concrete Try.prog 6 = true := by kernel_rfl
@[push_cast] theorem isl6 : isSlc Try.prog 6 = false := by kernel_rfl
@[push_cast] theorem ist6 : isStr Try.prog 6 = false := by kernel_rfl
@[push_cast] theorem ik6 : ikd Try.prog 6 = some .u8 := by kernel_rfl
@[push_cast] theorem tk7 : tk Try.prog 7 = .aggr 4 := by kernel_rfl
@[push_cast] theorem zc7 : zc Try.prog 7 = some [.int .i64 0, .int .i64 0, .bool false, .int .u8 0] := by kernel_rfl
@[push_cast] theorem fld7_0 : fld Try.prog 7 0 = some (0, .scal) := by kernel_rfl
@[push_cast] theorem fld7_1 : fld Try.prog 7 1 = some (1, .scal) := by kernel_rfl
@[push_cast] theorem fld7_2 : fld Try.prog 7 2 = some (2, .scal) := by kernel_rfl
@[push_cast] theorem fld7_3 : fld Try.prog 7 3 = some (3, .scal) := by kernel_rfl
@[push_cast] theorem pl7 : places Try.prog 7 = some [(0, 1), (1, 1), (2, 1), (3, 1)] := by kernel_rfl
@[push_cast] theorem nk7 : nk Try.prog 7 = .other := by kernel_rfl
@[push_cast] theorem cc7 : Go.Abs.concrete Try.prog 7 = true := by kernel_rfl
@[push_cast] theorem isl7 : isSlc Try.prog 7 = false := by kernel_rfl
@[push_cast] theorem ist7 : isStr Try.prog 7 = false := by kernel_rfl
@[push_cast] theorem ik7 : ikd Try.prog 7 = none := by kernel_rfl
@[push_cast] theorem tk8 : tk Try.prog 8 = .aggr 4 := by kernel_rfl
@[push_cast] theorem zc8 : zc Try.prog 8 = some [.int .i64 0, .int .i64 0, .bool false, .int .u8 0] := by kernel_rfl
@[push_cast] theorem fld8_0 : fld Try.prog 8 0 = some (0, .scal) := by kernel_rfl
@[push_cast] theorem fld8_1 : fld Try.prog 8 1 = some (1, .scal) := by kernel_rfl
@[push_cast] theorem fld8_2 : fld Try.prog 8 2 = some (2, .scal) := by kernel_rfl
@[push_cast] theorem fld8_3 : fld Try.prog 8 3 = some (3, .scal) := by kernel_rfl
@[push_cast] theorem pl8 : places Try.prog 8 = some [(0, 1), (1, 1), (2, 1), (3, 1)] := by kernel_rfl
@[push_cast] theorem nk8 : nk Try.prog 8 = .other := by kernel_rfl
@[push_cast] theorem cc8 : Go.Abs.concrete Try.prog 8 = true := by kernel_rfl
@[push_cast] theorem isl8 : isSlc Try.prog 8 = false := by kernel_rfl
@[push_cast] theorem ist8 : isStr Try.prog 8 = false := by kernel_rfl
@[push_cast] theorem ik8 : ikd Try.prog 8 = none := by kernel_rfl
@[push_cast] theorem tk9 : tk Try.prog 9 = .scal := by kernel_rfl
@[push_cast] theorem zc9 : zc Try.prog 9 = some [.string ⟨#[]⟩] := by kernel_rfl
@[push_cast] theorem nk9 : nk Try.prog 9 = .other := by kernel_rfl
@[push_cast] theorem cc9 : Go.Abs.concrete Try.prog 9 = true := by kernel_rfl
@[push_cast] theorem isl9 : isSlc Try.prog 9 = false := by kernel_rfl
@[push_cast] theorem ist9 : isStr Try.prog 9 = true := by kernel_rfl
@[push_cast] theorem ik9 : ikd Try.prog 9 = none := by kernel_rfl
@[push_cast] theorem tk10 : tk Try.prog 10 = .scal := by kernel_rfl
@[push_cast] theorem zc10 : zc Try.prog 10 = some [.string ⟨#[]⟩] := by kernel_rfl
@[push_cast] theorem nk10 : nk Try.prog 10 = .other := by kernel_rfl
@[push_cast] theorem cc10 : Go.Abs.concrete Try.prog 10 = true := by kernel_rfl
@[push_cast] theorem isl10 : isSlc Try.prog 10 = false := by kernel_rfl
@[push_cast] theorem ist10 : isStr Try.prog 10 = true := by kernel_rfl
@[push_cast] theorem ik10 : ikd Try.prog 10 = none := by kernel_rfl
@[push_cast] theorem tk11 : tk Try.prog 11 = .scal := by kernel_rfl
@[push_cast] theorem zc11 : zc Try.prog 11 = some [.string ⟨#[]⟩] := by kernel_rfl
@[push_cast] theorem nk11 : nk Try.prog 11 = .other := by kernel_rfl
@[push_cast] theorem cc11 : Go.Abs.concrete Try.prog 11 = true := by kernel_rfl
@[push_cast] theorem isl11 : isSlc Try.prog 11 = false := by kernel_rfl
@[push_cast] theorem ist11 : isStr Try.prog 11 = true := by kernel_rfl
@[push_cast] theorem ik11 : ikd Try.prog 11 = none := by kernel_rfl
@[push_cast] theorem tk12 : tk Try.prog 12 = .scal := by kernel_rfl
@[push_cast] theorem zc12 : zc Try.prog 12 = some [.int .u64 0] := by kernel_rfl
@[push_cast] theorem nk12 : nk Try.prog 12 = .other := by kernel_rfl
@[push_cast] theorem cc12 : Go.Abs.concrete Try.prog 12 = true := by kernel_rfl
@[push_cast] theorem isl12 : isSlc Try.prog 12 = false := by kernel_rfl
@[push_cast] theorem ist12 : isStr Try.prog 12 = false := by kernel_rfl
@[push_cast] theorem ik12 : ikd Try.prog 12 = some .u64 := by kernel_rfl
@[push_cast] theorem tk13 : tk Try.prog 13 = .aggr 2 := by kernel_rfl
@[push_cast] theorem zc13 : zc Try.prog 13 = some [.string ⟨#[]⟩, .int .u64 0] := by kernel_rfl
@[push_cast] theorem fld13_0 : fld Try.prog 13 0 = some (0, .scal) := by kernel_rfl
@[push_cast] theorem fld13_1 : fld Try.prog 13 1 = some (1, .scal) := by kernel_rfl
@[push_cast] theorem pl13 : places Try.prog 13 = some [(0, 1), (1, 1)] := by kernel_rfl
@[push_cast] theorem nk13 : nk Try.prog 13 = .other := by kernel_rfl
@[push_cast] theorem cc13 : Go.Abs.concrete Try.prog 13 = true := by kernel_rfl
@[push_cast] theorem isl13 : isSlc Try.prog 13 = false := by kernel_rfl
@[push_cast] theorem ist13 : isStr Try.prog 13 = false := by kernel_rfl
@[push_cast] theorem ik13 : ikd Try.prog 13 = none := by kernel_rfl
@[push_cast] theorem tk14 : tk Try.prog 14 = .aggr 2 := by kernel_rfl
@[push_cast] theorem zc14 : zc Try.prog 14 = some [.string ⟨#[]⟩, .int .u64 0] := by kernel_rfl
@[push_cast] theorem fld14_0 : fld Try.prog 14 0 = some (0, .scal) := by kernel_rfl
@[push_cast] theorem fld14_1 : fld Try.prog 14 1 = some (1, .scal) := by kernel_rfl
@[push_cast] theorem pl14 : places Try.prog 14 = some [(0, 1), (1, 1)] := by kernel_rfl
@[push_cast] theorem nk14 : nk Try.prog 14 = .other := by kernel_rfl
@[push_cast] theorem cc14 : Go.Abs.concrete Try.prog 14 = true := by kernel_rfl
@[push_cast] theorem isl14 : isSlc Try.prog 14 = false := by kernel_rfl
@[push_cast] theorem ist14 : isStr Try.prog 14 = false := by kernel_rfl
@[push_cast] theorem ik14 : ikd Try.prog 14 = none := by kernel_rfl
@[push_cast] theorem tk15 : tk Try.prog 15 = .scal := by kernel_rfl
@[push_cast] theorem zc15 : zc Try.prog 15 = some [.pointer none] := by kernel_rfl
@[push_cast] theorem nk15 : nk Try.prog 15 = .ptr := by kernel_rfl
@[push_cast] theorem cc15 : Go.Abs.concrete Try.prog 15 = true := by kernel_rfl
@[push_cast] theorem isl15 : isSlc Try.prog 15 = false := by kernel_rfl
@[push_cast] theorem ist15 : isStr Try.prog 15 = false := by kernel_rfl
@[push_cast] theorem ik15 : ikd Try.prog 15 = none := by kernel_rfl
@[push_cast] theorem tk16 : tk Try.prog 16 = .scal := by kernel_rfl
@[push_cast] theorem zc16 : zc Try.prog 16 = some [.pointer none] := by kernel_rfl
@[push_cast] theorem nk16 : nk Try.prog 16 = .ptr := by kernel_rfl
@[push_cast] theorem cc16 : Go.Abs.concrete Try.prog 16 = true := by kernel_rfl
@[push_cast] theorem isl16 : isSlc Try.prog 16 = false := by kernel_rfl
@[push_cast] theorem ist16 : isStr Try.prog 16 = false := by kernel_rfl
@[push_cast] theorem ik16 : ikd Try.prog 16 = none := by kernel_rfl
@[push_cast] theorem tk17 : tk Try.prog 17 = .scal := by kernel_rfl
@[push_cast] theorem zc17 : zc Try.prog 17 = some [.pointer none] := by kernel_rfl
@[push_cast] theorem nk17 : nk Try.prog 17 = .ptr := by kernel_rfl
@[push_cast] theorem cc17 : Go.Abs.concrete Try.prog 17 = true := by kernel_rfl
@[push_cast] theorem isl17 : isSlc Try.prog 17 = false := by kernel_rfl
@[push_cast] theorem ist17 : isStr Try.prog 17 = false := by kernel_rfl
@[push_cast] theorem ik17 : ikd Try.prog 17 = none := by kernel_rfl
@[push_cast] theorem tk18 : tk Try.prog 18 = .aggr 1 := by kernel_rfl
@[push_cast] theorem zc18 : zc Try.prog 18 = some [.pointer none] := by kernel_rfl
@[push_cast] theorem fld18_0 : fld Try.prog 18 0 = some (0, .scal) := by kernel_rfl
@[push_cast] theorem pl18 : places Try.prog 18 = some [(0, 1)] := by kernel_rfl
@[push_cast] theorem nk18 : nk Try.prog 18 = .other := by kernel_rfl
@[push_cast] theorem cc18 : Go.Abs.concrete Try.prog 18 = true := by kernel_rfl
@[push_cast] theorem isl18 : isSlc Try.prog 18 = false := by kernel_rfl
@[push_cast] theorem ist18 : isStr Try.prog 18 = false := by kernel_rfl
@[push_cast] theorem ik18 : ikd Try.prog 18 = none := by kernel_rfl
@[push_cast] theorem tk19 : tk Try.prog 19 = .aggr 1 := by kernel_rfl
@[push_cast] theorem zc19 : zc Try.prog 19 = some [.pointer none] := by kernel_rfl
@[push_cast] theorem fld19_0 : fld Try.prog 19 0 = some (0, .scal) := by kernel_rfl
@[push_cast] theorem pl19 : places Try.prog 19 = some [(0, 1)] := by kernel_rfl
@[push_cast] theorem nk19 : nk Try.prog 19 = .other := by kernel_rfl
@[push_cast] theorem cc19 : Go.Abs.concrete Try.prog 19 = true := by kernel_rfl
@[push_cast] theorem isl19 : isSlc Try.prog 19 = false := by kernel_rfl
@[push_cast] theorem ist19 : isStr Try.prog 19 = false := by kernel_rfl
@[push_cast] theorem ik19 : ikd Try.prog 19 = none := by kernel_rfl
@[push_cast] theorem tk20 : tk Try.prog 20 = .scal := by kernel_rfl
@[push_cast] theorem zc20 : zc Try.prog 20 = some [.nilIface] := by kernel_rfl
@[push_cast] theorem nk20 : nk Try.prog 20 = .ifc := by kernel_rfl
@[push_cast] theorem isl20 : isSlc Try.prog 20 = false := by kernel_rfl
@[push_cast] theorem ist20 : isStr Try.prog 20 = false := by kernel_rfl
@[push_cast] theorem ik20 : ikd Try.prog 20 = none := by kernel_rfl
@[push_cast] theorem tk21 : tk Try.prog 21 = .scal := by kernel_rfl
@[push_cast] theorem zc21 : zc Try.prog 21 = some [.int .i32 0] := by kernel_rfl
@[push_cast] theorem nk21 : nk Try.prog 21 = .other := by kernel_rfl
@[push_cast] theorem cc21 : Go.Abs.concrete Try.prog 21 = true := by kernel_rfl
@[push_cast] theorem isl21 : isSlc Try.prog 21 = false := by kernel_rfl
@[push_cast] theorem ist21 : isStr Try.prog 21 = false := by kernel_rfl
@[push_cast] theorem ik21 : ikd Try.prog 21 = some .i32 := by kernel_rfl
@[push_cast] theorem tk22 : tk Try.prog 22 = .scal := by kernel_rfl
@[push_cast] theorem zc22 : zc Try.prog 22 = some [.int .u16 0] := by kernel_rfl
@[push_cast] theorem nk22 : nk Try.prog 22 = .other := by kernel_rfl
@[push_cast] theorem cc22 : Go.Abs.concrete Try.prog 22 = true := by kernel_rfl
@[push_cast] theorem isl22 : isSlc Try.prog 22 = false := by kernel_rfl
@[push_cast] theorem ist22 : isStr Try.prog 22 = false := by kernel_rfl
@[push_cast] theorem ik22 : ikd Try.prog 22 = some .u16 := by kernel_rfl
@[push_cast] theorem tk23 : tk Try.prog 23 = .scal := by kernel_rfl
@[push_cast] theorem zc23 : zc Try.prog 23 = some [.int .u32 0] := by kernel_rfl
@[push_cast] theorem nk23 : nk Try.prog 23 = .other := by kernel_rfl
@[push_cast] theorem cc23 : Go.Abs.concrete Try.prog 23 = true := by kernel_rfl
@[push_cast] theorem isl23 : isSlc Try.prog 23 = false := by kernel_rfl
@[push_cast] theorem ist23 : isStr Try.prog 23 = false := by kernel_rfl
@[push_cast] theorem ik23 : ikd Try.prog 23 = some .u32 := by kernel_rfl
@[push_cast] theorem tk24 : tk Try.prog 24 = .scal := by kernel_rfl
@[push_cast] theorem zc24 : zc Try.prog 24 = some [.nilFunc] := by kernel_rfl
@[push_cast] theorem nk24 : nk Try.prog 24 = .fnc := by kernel_rfl
@[push_cast] theorem cc24 : Go.Abs.concrete Try.prog 24 = true := by kernel_rfl
@[push_cast] theorem isl24 : isSlc Try.prog 24 = false := by kernel_rfl
@[push_cast] theorem ist24 : isStr Try.prog 24 = false := by kernel_rfl
@[push_cast] theorem ik24 : ikd Try.prog 24 = none := by kernel_rfl
@[push_cast] theorem tk25 : tk Try.prog 25 = .scal := by kernel_rfl
@[push_cast] theorem zc25 : zc Try.prog 25 = some [.slice none 0 0] := by kernel_rfl
@[push_cast] theorem nk25 : nk Try.prog 25 = .slc := by kernel_rfl
@[push_cast] theorem cc25 : Go.Abs.concrete Try.prog 25 = true := by kernel_rfl
@[push_cast] theorem isl25 : isSlc Try.prog 25 = true := by kernel_rfl
@[push_cast] theorem ist25 : isStr Try.prog 25 = false := by kernel_rfl
@[push_cast] theorem ik25 : ikd Try.prog 25 = none := by kernel_rfl
@[push_cast] theorem es25 : elSz Try.prog 25 = some 1 := by kernel_rfl
@[push_cast] theorem eb25 : elB Try.prog 25 = 1 := by kernel_rfl
@[push_cast] theorem el25 : elT Try.prog 25 = some 5 := by kernel_rfl
@[push_cast] theorem by25 : isBys Try.prog 25 = true := by kernel_rfl
@[push_cast] theorem tk26 : tk Try.prog 26 = .scal := by kernel_rfl
@[push_cast] theorem zc26 : zc Try.prog 26 = some [.slice none 0 0] := by kernel_rfl
@[push_cast] theorem nk26 : nk Try.prog 26 = .slc := by kernel_rfl
@[push_cast] theorem cc26 : Go.Abs.concrete Try.prog 26 = true := by kernel_rfl
@[push_cast] theorem isl26 : isSlc Try.prog 26 = true := by kernel_rfl
@[push_cast] theorem ist26 : isStr Try.prog 26 = false := by kernel_rfl
@[push_cast] theorem ik26 : ikd Try.prog 26 = none := by kernel_rfl
@[push_cast] theorem es26 : elSz Try.prog 26 = some 3 := by kernel_rfl
@[push_cast] theorem eb26 : elB Try.prog 26 = 56 := by kernel_rfl
@[push_cast] theorem el26 : elT Try.prog 26 = some 28 := by kernel_rfl
@[push_cast] theorem by26 : isBys Try.prog 26 = false := by kernel_rfl
@[push_cast] theorem tk27 : tk Try.prog 27 = .aggr 3 := by kernel_rfl
@[push_cast] theorem zc27 : zc Try.prog 27 = some [.int .u16 0, .slice none 0 0, .slice none 0 0] := by kernel_rfl
@[push_cast] theorem fld27_0 : fld Try.prog 27 0 = some (0, .scal) := by kernel_rfl
@[push_cast] theorem fld27_1 : fld Try.prog 27 1 = some (1, .scal) := by kernel_rfl
@[push_cast] theorem fld27_2 : fld Try.prog 27 2 = some (2, .scal) := by kernel_rfl
@[push_cast] theorem pl27 : places Try.prog 27 = some [(0, 1), (1, 1), (2, 1)] := by kernel_rfl
@[push_cast] theorem nk27 : nk Try.prog 27 = .other := by kernel_rfl
@[push_cast] theorem cc27 : Go.Abs.concrete Try.prog 27 = true := by kernel_rfl
@[push_cast] theorem isl27 : isSlc Try.prog 27 = false := by kernel_rfl
@[push_cast] theorem ist27 : isStr Try.prog 27 = false := by kernel_rfl
@[push_cast] theorem ik27 : ikd Try.prog 27 = none := by kernel_rfl
@[push_cast] theorem tk28 : tk Try.prog 28 = .aggr 3 := by kernel_rfl
@[push_cast] theorem zc28 : zc Try.prog 28 = some [.int .u16 0, .slice none 0 0, .slice none 0 0] := by kernel_rfl
@[push_cast] theorem fld28_0 : fld Try.prog 28 0 = some (0, .scal) := by kernel_rfl
@[push_cast] theorem fld28_1 : fld Try.prog 28 1 = some (1, .scal) := by kernel_rfl
@[push_cast] theorem fld28_2 : fld Try.prog 28 2 = some (2, .scal) := by kernel_rfl
@[push_cast] theorem pl28 : places Try.prog 28 = some [(0, 1), (1, 1), (2, 1)] := by kernel_rfl
@[push_cast] theorem nk28 : nk Try.prog 28 = .other := by kernel_rfl
@[push_cast] theorem cc28 : Go.Abs.concrete Try.prog 28 = true := by kernel_rfl
@[push_cast] theorem isl28 : isSlc Try.prog 28 = false := by kernel_rfl
@[push_cast] theorem ist28 : isStr Try.prog 28 = false := by kernel_rfl
@[push_cast] theorem ik28 : ikd Try.prog 28 = none := by kernel_rfl
@[push_cast] theorem tk30 : tk Try.prog 30 = .scal := by kernel_rfl
@[push_cast] theorem zc30 : zc Try.prog 30 = some [.nilFunc] := by kernel_rfl
@[push_cast] theorem nk30 : nk Try.prog 30 = .fnc := by kernel_rfl
@[push_cast] theorem cc30 : Go.Abs.concrete Try.prog 30 = true := by kernel_rfl
@[push_cast] theorem isl30 : isSlc Try.prog 30 = false := by kernel_rfl
@[push_cast] theorem ist30 : isStr Try.prog 30 = false := by kernel_rfl
@[push_cast] theorem ik30 : ikd Try.prog 30 = none := by kernel_rfl
@[push_cast] theorem tk31 : tk Try.prog 31 = .scal := by kernel_rfl
@[push_cast] theorem zc31 : zc Try.prog 31 = some [.nilFunc] := by kernel_rfl
@[push_cast] theorem nk31 : nk Try.prog 31 = .fnc := by kernel_rfl
@[push_cast] theorem cc31 : Go.Abs.concrete Try.prog 31 = true := by kernel_rfl
@[push_cast] theorem isl31 : isSlc Try.prog 31 = false := by kernel_rfl
@[push_cast] theorem ist31 : isStr Try.prog 31 = false := by kernel_rfl
@[push_cast] theorem ik31 : ikd Try.prog 31 = none := by kernel_rfl
@[push_cast] theorem tk32 : tk Try.prog 32 = .scal := by kernel_rfl
@[push_cast] theorem zc32 : zc Try.prog 32 = some [.nilFunc] := by kernel_rfl
@[push_cast] theorem nk32 : nk Try.prog 32 = .fnc := by kernel_rfl
@[push_cast] theorem cc32 : Go.Abs.concrete Try.prog 32 = true := by kernel_rfl
@[push_cast] theorem isl32 : isSlc Try.prog 32 = false := by kernel_rfl
@[push_cast] theorem ist32 : isStr Try.prog 32 = false := by kernel_rfl
@[push_cast] theorem ik32 : ikd Try.prog 32 = none := by kernel_rfl
@[push_cast] theorem tk34 : tk Try.prog 34 = .scal := by kernel_rfl
@[push_cast] theorem zc34 : zc Try.prog 34 = some [.nilFunc] := by kernel_rfl
@[push_cast] theorem nk34 : nk Try.prog 34 = .fnc := by kernel_rfl
@[push_cast] theorem cc34 : Go.Abs.concrete Try.prog 34 = true := by kernel_rfl
@[push_cast] theorem isl34 : isSlc Try.prog 34 = false := by kernel_rfl
@[push_cast] theorem ist34 : isStr Try.prog 34 = false := by kernel_rfl
@[push_cast] theorem ik34 : ikd Try.prog 34 = none := by kernel_rfl
@[push_cast] theorem tk35 : tk Try.prog 35 = .scal := by kernel_rfl
@[push_cast] theorem zc35 : zc Try.prog 35 = some [.nilFunc] := by kernel_rfl
@[push_cast] theorem nk35 : nk Try.prog 35 = .fnc := by kernel_rfl
@[push_cast] theorem cc35 : Go.Abs.concrete Try.prog 35 = true := by kernel_rfl
@[push_cast] theorem isl35 : isSlc Try.prog 35 = false := by kernel_rfl
@[push_cast] theorem ist35 : isStr Try.prog 35 = false := by kernel_rfl
@[push_cast] theorem ik35 : ikd Try.prog 35 = none := by kernel_rfl
@[push_cast] theorem tk36 : tk Try.prog 36 = .scal := by kernel_rfl
@[push_cast] theorem zc36 : zc Try.prog 36 = some [.nilFunc] := by kernel_rfl
@[push_cast] theorem nk36 : nk Try.prog 36 = .fnc := by kernel_rfl
@[push_cast] theorem cc36 : Go.Abs.concrete Try.prog 36 = true := by kernel_rfl
@[push_cast] theorem isl36 : isSlc Try.prog 36 = false := by kernel_rfl
@[push_cast] theorem ist36 : isStr Try.prog 36 = false := by kernel_rfl
@[push_cast] theorem ik36 : ikd Try.prog 36 = none := by kernel_rfl
@[push_cast] theorem tk37 : tk Try.prog 37 = .scal := by kernel_rfl
@[push_cast] theorem zc37 : zc Try.prog 37 = some [.slice none 0 0] := by kernel_rfl
@[push_cast] theorem nk37 : nk Try.prog 37 = .slc := by kernel_rfl
@[push_cast] theorem cc37 : Go.Abs.concrete Try.prog 37 = true := by kernel_rfl
@[push_cast] theorem isl37 : isSlc Try.prog 37 = true := by kernel_rfl
@[push_cast] theorem ist37 : isStr Try.prog 37 = false := by kernel_rfl
@[push_cast] theorem ik37 : ikd Try.prog 37 = none := by kernel_rfl
@[push_cast] theorem es37 : elSz Try.prog 37 = some 1 := by kernel_rfl
@[push_cast] theorem eb37 : elB Try.prog 37 = 2 := by kernel_rfl
@[push_cast] theorem el37 : elT Try.prog 37 = some 22 := by kernel_rfl
@[push_cast] theorem by37 : isBys Try.prog 37 = false := by kernel_rfl
@[push_cast] theorem tk39 : tk Try.prog 39 = .scal := by kernel_rfl
@[push_cast] theorem zc39 : zc Try.prog 39 = some [.nilFunc] := by kernel_rfl
@[push_cast] theorem nk39 : nk Try.prog 39 = .fnc := by kernel_rfl
@[push_cast] theorem cc39 : Go.Abs.concrete Try.prog 39 = true := by kernel_rfl
@[push_cast] theorem isl39 : isSlc Try.prog 39 = false := by kernel_rfl
@[push_cast] theorem ist39 : isStr Try.prog 39 = false := by kernel_rfl
@[push_cast] theorem ik39 : ikd Try.prog 39 = none := by kernel_rfl
@[push_cast] theorem tk40 : tk Try.prog 40 = .scal := by kernel_rfl
@[push_cast] theorem zc40 : zc Try.prog 40 = some [.nilFunc] := by kernel_rfl
@[push_cast] theorem nk40 : nk Try.prog 40 = .fnc := by kernel_rfl
@[push_cast] theorem cc40 : Go.Abs.concrete Try.prog 40 = true := by kernel_rfl
@[push_cast] theorem isl40 : isSlc Try.prog 40 = false := by kernel_rfl
@[push_cast] theorem ist40 : isStr Try.prog 40 = false := by kernel_rfl
@[push_cast] theorem ik40 : ikd Try.prog 40 = none := by kernel_rfl
@[push_cast] theorem tk41 : tk Try.prog 41 = .scal := by kernel_rfl
@[push_cast] theorem zc41 : zc Try.prog 41 = some [.nilFunc] := by kernel_rfl
@[push_cast] theorem nk41 : nk Try.prog 41 = .fnc := by kernel_rfl
@[push_cast] theorem cc41 : Go.Abs.concrete Try.prog 41 = true := by kernel_rfl
@[push_cast] theorem isl41 : isSlc Try.prog 41 = false := by kernel_rfl
@[push_cast] theorem ist41 : isStr Try.prog 41 = false := by kernel_rfl
@[push_cast] theorem ik41 : ikd Try.prog 41 = none := by kernel_rfl
@[push_cast] theorem tk42 : tk Try.prog 42 = .scal := by kernel_rfl
@[push_cast] theorem zc42 : zc Try.prog 42 = some [.nilFunc] := by kernel_rfl
@[push_cast] theorem nk42 : nk Try.prog 42 = .fnc := by kernel_rfl
@[push_cast] theorem cc42 : Go.Abs.concrete Try.prog 42 = true := by kernel_rfl
@[push_cast] theorem isl42 : isSlc Try.prog 42 = false := by kernel_rfl
@[push_cast] theorem ist42 : isStr Try.prog 42 = false := by kernel_rfl
@[push_cast] theorem ik42 : ikd Try.prog 42 = none := by kernel_rfl
@[push_cast] theorem tk43 : tk Try.prog 43 = .scal := by kernel_rfl
@[push_cast] theorem zc43 : zc Try.prog 43 = some [.nilFunc] := by kernel_rfl
@[push_cast] theorem nk43 : nk Try.prog 43 = .fnc := by kernel_rfl
@[push_cast] theorem cc43 : Go.Abs.concrete Try.prog 43 = true := by kernel_rfl
@[push_cast] theorem isl43 : isSlc Try.prog 43 = false := by kernel_rfl
@[push_cast] theorem ist43 : isStr Try.prog 43 = false := by kernel_rfl
@[push_cast] theorem ik43 : ikd Try.prog 43 = none := by kernel_rfl
@[push_cast] theorem tk44 : tk Try.prog 44 = .scal := by kernel_rfl
@[push_cast] theorem zc44 : zc Try.prog 44 = some [.nilFunc] := by kernel_rfl
@[push_cast] theorem nk44 : nk Try.prog 44 = .fnc := by kernel_rfl
@[push_cast] theorem cc44 : Go.Abs.concrete Try.prog 44 = true := by kernel_rfl
@[push_cast] theorem isl44 : isSlc Try.prog 44 = false := by kernel_rfl
@[push_cast] theorem ist44 : isStr Try.prog 44 = false := by kernel_rfl
@[push_cast] theorem ik44 : ikd Try.prog 44 = none := by kernel_rfl
@[push_cast] theorem tk45 : tk Try.prog 45 = .scal := by kernel_rfl
@[push_cast] theorem zc45 : zc Try.prog 45 = some [.nilFunc] := by kernel_rfl
@[push_cast] theorem nk45 : nk Try.prog 45 = .fnc := by kernel_rfl
@[push_cast] theorem cc45 : Go.Abs.concrete Try.prog 45 = true := by kernel_rfl
@[push_cast] theorem isl45 : isSlc Try.prog 45 = false := by kernel_rfl
@[push_cast] theorem ist45 : isStr Try.prog 45 = false := by kernel_rfl
@[push_cast] theorem ik45 : ikd Try.prog 45 = none := by kernel_rfl
@[push_cast] theorem tk46 : tk Try.prog 46 = .scal := by kernel_rfl
@[push_cast] theorem zc46 : zc Try.prog 46 = some [.nilFunc] := by kernel_rfl
@[push_cast] theorem nk46 : nk Try.prog 46 = .fnc := by kernel_rfl
@[push_cast] theorem cc46 : Go.Abs.concrete Try.prog 46 = true := by kernel_rfl
@[push_cast] theorem isl46 : isSlc Try.prog 46 = false := by kernel_rfl
@[push_cast] theorem ist46 : isStr Try.prog 46 = false := by kernel_rfl
@[push_cast] theorem ik46 : ikd Try.prog 46 = none := by kernel_rfl
@[push_cast] theorem tk47 : tk Try.prog 47 = .scal := by kernel_rfl
@[push_cast] theorem zc47 : zc Try.prog 47 = some [.nilFunc] := by kernel_rfl
@[push_cast] theorem nk47 : nk Try.prog 47 = .fnc := by kernel_rfl
@[push_cast] theorem cc47 : Go.Abs.concrete Try.prog 47 = true := by kernel_rfl
@[push_cast] theorem isl47 : isSlc Try.prog 47 = false := by kernel_rfl
@[push_cast] theorem ist47 : isStr Try.prog 47 = false := by kernel_rfl
@[push_cast] theorem ik47 : ikd Try.prog 47 = none := by kernel_rfl
@[push_cast] theorem tk48 : tk Try.prog 48 = .scal := by kernel_rfl
@[push_cast] theorem zc48 : zc Try.prog 48 = some [.nilFunc] := by kernel_rfl
@[push_cast] theorem nk48 : nk Try.prog 48 = .fnc := by kernel_rfl
@[push_cast] theorem cc48 : Go.Abs.concrete Try.prog 48 = true := by kernel_rfl
@[push_cast] theorem isl48 : isSlc Try.prog 48 = false := by kernel_rfl
@[push_cast] theorem ist48 : isStr Try.prog 48 = false := by kernel_rfl
@[push_cast] theorem ik48 : ikd Try.prog 48 = none := by kernel_rfl
@[push_cast] theorem tk49 : tk Try.prog 49 = .scal := by kernel_rfl
@[push_cast] theorem zc49 : zc Try.prog 49 = some [.nilFunc] := by kernel_rfl
@[push_cast] theorem nk49 : nk Try.prog 49 = .fnc := by kernel_rfl
@[push_cast] theorem cc49 : Go.Abs.concrete Try.prog 49 = true := by kernel_rfl
@[push_cast] theorem isl49 : isSlc Try.prog 49 = false := by kernel_rfl
@[push_cast] theorem ist49 : isStr Try.prog 49 = false := by kernel_rfl
@[push_cast] theorem ik49 : ikd Try.prog 49 = none := by kernel_rfl
@[push_cast] theorem tk50 : tk Try.prog 50 = .scal := by kernel_rfl
@[push_cast] theorem zc50 : zc Try.prog 50 = some [.nilFunc] := by kernel_rfl
@[push_cast] theorem nk50 : nk Try.prog 50 = .fnc := by kernel_rfl
@[push_cast] theorem cc50 : Go.Abs.concrete Try.prog 50 = true := by kernel_rfl
@[push_cast] theorem isl50 : isSlc Try.prog 50 = false := by kernel_rfl
@[push_cast] theorem ist50 : isStr Try.prog 50 = false := by kernel_rfl
@[push_cast] theorem ik50 : ikd Try.prog 50 = none := by kernel_rfl
@[push_cast] theorem tk51 : tk Try.prog 51 = .scal := by kernel_rfl
@[push_cast] theorem zc51 : zc Try.prog 51 = some [.nilFunc] := by kernel_rfl
@[push_cast] theorem nk51 : nk Try.prog 51 = .fnc := by kernel_rfl
@[push_cast] theorem cc51 : Go.Abs.concrete Try.prog 51 = true := by kernel_rfl
@[push_cast] theorem isl51 : isSlc Try.prog 51 = false := by kernel_rfl
@[push_cast] theorem ist51 : isStr Try.prog 51 = false := by kernel_rfl
@[push_cast] theorem ik51 : ikd Try.prog 51 = none := by kernel_rfl
@[push_cast] theorem tk52 : tk Try.prog 52 = .scal := by kernel_rfl
@[push_cast] theorem zc52 : zc Try.prog 52 = some [.nilFunc] := by kernel_rfl
@[push_cast] theorem nk52 : nk Try.prog 52 = .fnc := by kernel_rfl
@[push_cast] theorem cc52 : Go.Abs.concrete Try.prog 52 = true := by kernel_rfl
@[push_cast] theorem isl52 : isSlc Try.prog 52 = false := by kernel_rfl
@[push_cast] theorem ist52 : isStr Try.prog 52 = false := by kernel_rfl
@[push_cast] theorem ik52 : ikd Try.prog 52 = none := by kernel_rfl
@[push_cast] theorem tk53 : tk Try.prog 53 = .scal := by kernel_rfl
@[push_cast] theorem zc53 : zc Try.prog 53 = some [.nilFunc] := by kernel_rfl
@[push_cast] theorem nk53 : nk Try.prog 53 = .fnc := by kernel_rfl
@[push_cast] theorem cc53 : Go.Abs.concrete Try.prog 53 = true := by kernel_rfl
@[push_cast] theorem isl53 : isSlc Try.prog 53 = false := by kernel_rfl
@[push_cast] theorem ist53 : isStr Try.prog 53 = false := by kernel_rfl
@[push_cast] theorem ik53 : ikd Try.prog 53 = none := by kernel_rfl
@[push_cast] theorem tk54 : tk Try.prog 54 = .scal := by kernel_rfl
@[push_cast] theorem zc54 : zc Try.prog 54 = some [.int .u64 0] := by kernel_rfl
@[push_cast] theorem nk54 : nk Try.prog 54 = .other := by kernel_rfl
@[push_cast] theorem cc54 : Go.Abs.concrete Try.prog 54 = true := by kernel_rfl
@[push_cast] theorem isl54 : isSlc Try.prog 54 = false := by kernel_rfl
@[push_cast] theorem ist54 : isStr Try.prog 54 = false := by kernel_rfl
@[push_cast] theorem ik54 : ikd Try.prog 54 = some .u64 := by kernel_rfl
@[push_cast] theorem tk55 : tk Try.prog 55 = .scal := by kernel_rfl
@[push_cast] theorem zc55 : zc Try.prog 55 = some [.nilFunc] := by kernel_rfl
@[push_cast] theorem nk55 : nk Try.prog 55 = .fnc := by kernel_rfl
@[push_cast] theorem cc55 : Go.Abs.concrete Try.prog 55 = true := by kernel_rfl
@[push_cast] theorem isl55 : isSlc Try.prog 55 = false := by kernel_rfl
@[push_cast] theorem ist55 : isStr Try.prog 55 = false := by kernel_rfl
@[push_cast] theorem ik55 : ikd Try.prog 55 = none := by kernel_rfl
@[push_cast] theorem tk56 : tk Try.prog 56 = .scal := by kernel_rfl
@[push_cast] theorem zc56 : zc Try.prog 56 = some [.slice none 0 0] := by kernel_rfl
@[push_cast] theorem nk56 : nk Try.prog 56 = .slc := by kernel_rfl
@[push_cast] theorem cc56 : Go.Abs.concrete Try.prog 56 = true := by kernel_rfl
@[push_cast] theorem isl56 : isSlc Try.prog 56 = true := by kernel_rfl
@[push_cast] theorem ist56 : isStr Try.prog 56 = false := by kernel_rfl
@[push_cast] theorem ik56 : ikd Try.prog 56 = none := by kernel_rfl
@[push_cast] theorem es56 : elSz Try.prog 56 = some 1 := by kernel_rfl
@[push_cast] theorem eb56 : elB Try.prog 56 = 4 := by kernel_rfl
@[push_cast] theorem el56 : elT Try.prog 56 = some 23 := by kernel_rfl
@[push_cast] theorem by56 : isBys Try.prog 56 = false := by kernel_rfl
@[push_cast] theorem tk57 : tk Try.prog 57 = .scal := by kernel_rfl
@[push_cast] theorem zc57 : zc Try.prog 57 = some [.nilFunc] := by kernel_rfl
@[push_cast] theorem nk57 : nk Try.prog 57 = .fnc := by kernel_rfl
@[push_cast] theorem cc57 : Go.Abs.concrete Try.prog 57 = true := by kernel_rfl
@[push_cast] theorem isl57 : isSlc Try.prog 57 = false := by kernel_rfl
@[push_cast] theorem ist57 : isStr Try.prog 57 = false := by kernel_rfl
@[push_cast] theorem ik57 : ikd Try.prog 57 = none := by kernel_rfl
@[push_cast] theorem tk58 : tk Try.prog 58 = .scal := by kernel_rfl
@[push_cast] theorem zc58 : zc Try.prog 58 = some [.nilFunc] := by kernel_rfl
@[push_cast] theorem nk58 : nk Try.prog 58 = .fnc := by kernel_rfl
@[push_cast] theorem cc58 : Go.Abs.concrete Try.prog 58 = true := by kernel_rfl
@[push_cast] theorem isl58 : isSlc Try.prog 58 = false := by kernel_rfl
@[push_cast] theorem ist58 : isStr Try.prog 58 = false := by kernel_rfl
@[push_cast] theorem ik58 : ikd Try.prog 58 = none := by kernel_rfl
@[push_cast] theorem tk59 : tk Try.prog 59 = .scal := by kernel_rfl
@[push_cast] theorem zc59 : zc Try.prog 59 = some [.nilFunc] := by kernel_rfl
@[push_cast] theorem nk59 : nk Try.prog 59 = .fnc := by kernel_rfl
@[push_cast] theorem cc59 : Go.Abs.concrete Try.prog 59 = true := by kernel_rfl
@[push_cast] theorem isl59 : isSlc Try.prog 59 = false := by kernel_rfl
@[push_cast] theorem ist59 : isStr Try.prog 59 = false := by kernel_rfl
@[push_cast] theorem ik59 : ikd Try.prog 59 = none := by kernel_rfl
@[push_cast] theorem tk60 : tk Try.prog 60 = .aggr 7 := by kernel_rfl
@[push_cast] theorem zc60 : zc Try.prog 60 = some [.int .i64 0, .int .u16 0, .string ⟨#[]⟩, .int .i64 0, .int .i64 0, .int .i64 0, .int .i64 0] := by kernel_rfl
@[push_cast] theorem fld60_0 : fld Try.prog 60 0 = some (0, .scal) := by kernel_rfl
@[push_cast] theorem fld60_1 : fld Try.prog 60 1 = some (1, .scal) := by kernel_rfl
@[push_cast] theorem fld60_2 : fld Try.prog 60 2 = some (2, .scal) := by kernel_rfl
@[push_cast] theorem fld60_3 : fld Try.prog 60 3 = some (3, .scal) := by kernel_rfl
@[push_cast] theorem fld60_4 : fld Try.prog 60 4 = some (4, .scal) := by kernel_rfl
@[push_cast] theorem fld60_5 : fld Try.prog 60 5 = some (5, .scal) := by kernel_rfl
@[push_cast] theorem fld60_6 : fld Try.prog 60 6 = some (6, .scal) := by kernel_rfl
@[push_cast] theorem pl60 : places Try.prog 60 = some [(0, 1), (1, 1), (2, 1), (3, 1), (4, 1), (5, 1), (6, 1)] := by kernel_rfl
@[push_cast] theorem nk60 : nk Try.prog 60 = .other := by kernel_rfl
@[push_cast] theorem cc60 : Go.Abs.concrete Try.prog 60 = true := by kernel_rfl
@[push_cast] theorem isl60 : isSlc Try.prog 60 = false := by kernel_rfl
@[push_cast] theorem ist60 : isStr Try.prog 60 = false := by kernel_rfl
@[push_cast] theorem ik60 : ikd Try.prog 60 = none := by kernel_rfl
@[push_cast] theorem tk61 : tk Try.prog 61 = .aggr 7 := by kernel_rfl
@[push_cast] theorem zc61 : zc Try.prog 61 = some [.int .i64 0, .int .u16 0, .string ⟨#[]⟩, .int .i64 0, .int .i64 0, .int .i64 0, .int .i64 0] := by kernel_rfl
@[push_cast] theorem fld61_0 : fld Try.prog 61 0 = some (0, .scal) := by kernel_rfl
@[push_cast] theorem fld61_1 : fld Try.prog 61 1 = some (1, .scal) := by kernel_rfl
@[push_cast] theorem fld61_2 : fld Try.prog 61 2 = some (2, .scal) := by kernel_rfl
@[push_cast] theorem fld61_3 : fld Try.prog 61 3 = some (3, .scal) := by kernel_rfl
@[push_cast] theorem fld61_4 : fld Try.prog 61 4 = some (4, .scal) := by kernel_rfl
@[push_cast] theorem fld61_5 : fld Try.prog 61 5 = some (5, .scal) := by kernel_rfl
@[push_cast] theorem fld61_6 : fld Try.prog 61 6 = some (6, .scal) := by kernel_rfl
@[push_cast] theorem pl61 : places Try.prog 61 = some [(0, 1), (1, 1), (2, 1), (3, 1), (4, 1), (5, 1), (6, 1)] := by kernel_rfl
@[push_cast] theorem nk61 : nk Try.prog 61 = .other := by kernel_rfl
@[push_cast] theorem cc61 : Go.Abs.concrete Try.prog 61 = true := by kernel_rfl
@[push_cast] theorem isl61 : isSlc Try.prog 61 = false := by kernel_rfl
@[push_cast] theorem ist61 : isStr Try.prog 61 = false := by kernel_rfl
@[push_cast] theorem ik61 : ikd Try.prog 61 = none := by kernel_rfl
@[push_cast] theorem tk62 : tk Try.prog 62 = .scal := by kernel_rfl
@[push_cast] theorem zc62 : zc Try.prog 62 = some [.nilFunc] := by kernel_rfl
@[push_cast] theorem nk62 : nk Try.prog 62 = .fnc := by kernel_rfl
@[push_cast] theorem cc62 : Go.Abs.concrete Try.prog 62 = true := by kernel_rfl
@[push_cast] theorem isl62 : isSlc Try.prog 62 = false := by kernel_rfl
@[push_cast] theorem ist62 : isStr Try.prog 62 = false := by kernel_rfl
@[push_cast] theorem ik62 : ikd Try.prog 62 = none := by kernel_rfl
@[push_cast] theorem tk63 : tk Try.prog 63 = .scal := by kernel_rfl
@[push_cast] theorem zc63 : zc Try.prog 63 = some [.nilFunc] := by kernel_rfl
@[push_cast] theorem nk63 : nk Try.prog 63 = .fnc := by kernel_rfl
@[push_cast] theorem cc63 : Go.Abs.concrete Try.prog 63 = true := by kernel_rfl
@[push_cast] theorem isl63 : isSlc Try.prog 63 = false := by kernel_rfl
@[push_cast] theorem ist63 : isStr Try.prog 63 = false := by kernel_rfl
@[push_cast] theorem ik63 : ikd Try.prog 63 = none := by kernel_rfl
@[push_cast] theorem tk64 : tk Try.prog 64 = .scal := by kernel_rfl
@[push_cast] theorem zc64 : zc Try.prog 64 = some [.nilFunc] := by kernel_rfl
@[push_cast] theorem nk64 : nk Try.prog 64 = .fnc := by kernel_rfl
@[push_cast] theorem cc64 : Go.Abs.concrete Try.prog 64 = true := by kernel_rfl
@[push_cast] theorem isl64 : isSlc Try.prog 64 = false := by kernel_rfl
@[push_cast] theorem ist64 : isStr Try.prog 64 = false := by kernel_rfl
@[push_cast] theorem ik64 : ikd Try.prog 64 = none := by kernel_rfl
@[push_cast] theorem tk65 : tk Try.prog 65 = .scal := by kernel_rfl
@[push_cast] theorem zc65 : zc Try.prog 65 = some [.nilFunc] := by kernel_rfl
@[push_cast] theorem nk65 : nk Try.prog 65 = .fnc := by kernel_rfl
@[push_cast] theorem cc65 : Go.Abs.concrete Try.prog 65 = true := by kernel_rfl
@[push_cast] theorem isl65 : isSlc Try.prog 65 = false := by kernel_rfl
@[push_cast] theorem ist65 : isStr Try.prog 65 = false := by kernel_rfl
@[push_cast] theorem ik65 : ikd Try.prog 65 = none := by kernel_rfl
@[push_cast] theorem tk66 : tk Try.prog 66 = .scal := by kernel_rfl
@[push_cast] theorem zc66 : zc Try.prog 66 = some [.nilFunc] := by kernel_rfl
@[push_cast] theorem nk66 : nk Try.prog 66 = .fnc := by kernel_rfl
@[push_cast] theorem cc66 : Go.Abs.concrete Try.prog 66 = true := by kernel_rfl
@[push_cast] theorem isl66 : isSlc Try.prog 66 = false := by kernel_rfl
@[push_cast] theorem ist66 : isStr Try.prog 66 = false := by kernel_rfl
@[push_cast] theorem ik66 : ikd Try.prog 66 = none := by kernel_rfl
@[push_cast] theorem tk67 : tk Try.prog 67 = .scal := by kernel_rfl
@[push_cast] theorem zc67 : zc Try.prog 67 = some [.nilFunc] := by kernel_rfl
@[push_cast] theorem nk67 : nk Try.prog 67 = .fnc := by kernel_rfl
@[push_cast] theorem cc67 : Go.Abs.concrete Try.prog 67 = true := by kernel_rfl
@[push_cast] theorem isl67 : isSlc Try.prog 67 = false := by kernel_rfl
@[push_cast] theorem ist67 : isStr Try.prog 67 = false := by kernel_rfl
@[push_cast] theorem ik67 : ikd Try.prog 67 = none := by kernel_rfl
@[push_cast] theorem tk68 : tk Try.prog 68 = .scal := by kernel_rfl
@[push_cast] theorem zc68 : zc Try.prog 68 = some [.nilIface] := by kernel_rfl
@[push_cast] theorem nk68 : nk Try.prog 68 = .ifc := by kernel_rfl
@[push_cast] theorem isl68 : isSlc Try.prog 68 = false := by kernel_rfl
@[push_cast] theorem ist68 : isStr Try.prog 68 = false := by kernel_rfl
@[push_cast] theorem ik68 : ikd Try.prog 68 = none := by kernel_rfl
@[push_cast] theorem tk69 : tk Try.prog 69 = .scal := by kernel_rfl
@[push_cast] theorem zc69 : zc Try.prog 69 = some [.nilIface] := by kernel_rfl
@[push_cast] theorem nk69 : nk Try.prog 69 = .ifc := by kernel_rfl
@[push_cast] theorem isl69 : isSlc Try.prog 69 = false := by kernel_rfl
@[push_cast] theorem ist69 : isStr Try.prog 69 = false := by kernel_rfl
@[push_cast] theorem ik69 : ikd Try.prog 69 = none := by kernel_rfl
@[push_cast] theorem tk70 : tk Try.prog 70 = .scal := by kernel_rfl
@[push_cast] theorem zc70 : zc Try.prog 70 = some [.nilFunc] := by kernel_rfl
@[push_cast] theorem nk70 : nk Try.prog 70 = .fnc := by kernel_rfl
@[push_cast] theorem cc70 : Go.Abs.concrete Try.prog 70 = true := by kernel_rfl
@[push_cast] theorem isl70 : isSlc Try.prog 70 = false := by kernel_rfl
@[push_cast] theorem ist70 : isStr Try.prog 70 = false := by kernel_rfl
@[push_cast] theorem ik70 : ikd Try.prog 70 = none := by kernel_rfl
@[push_cast] theorem tk71 : tk Try.prog 71 = .scal := by kernel_rfl
@[push_cast] theorem zc71 : zc Try.prog 71 = some [.nilFunc] := by kernel_rfl
@[push_cast] theorem nk71 : nk Try.prog 71 = .fnc := by kernel_rfl
@[push_cast] theorem cc71 : Go.Abs.concrete Try.prog 71 = true := by kernel_rfl
@[push_cast] theorem isl71 : isSlc Try.prog 71 = false := by kernel_rfl
@[push_cast] theorem ist71 : isStr Try.prog 71 = false := by kernel_rfl
@[push_cast] theorem ik71 : ikd Try.prog 71 = none := by kernel_rfl
@[push_cast] theorem tk72 : tk Try.prog 72 = .scal := by kernel_rfl
@[push_cast] theorem zc72 : zc Try.prog 72 = some [.nilFunc] := by kernel_rfl
@[push_cast] theorem nk72 : nk Try.prog 72 = .fnc := by kernel_rfl
@[push_cast] theorem cc72 : Go.Abs.concrete Try.prog 72 = true := by kernel_rfl
@[push_cast] theorem isl72 : isSlc Try.prog 72 = false := by kernel_rfl
@[push_cast] theorem ist72 : isStr Try.prog 72 = false := by kernel_rfl
@[push_cast] theorem ik72 : ikd Try.prog 72 = none := by kernel_rfl
@[push_cast] theorem tk73 : tk Try.prog 73 = .scal := by kernel_rfl
@[push_cast] theorem zc73 : zc Try.prog 73 = some [.nilFunc] := by kernel_rfl
@[push_cast] theorem nk73 : nk Try.prog 73 = .fnc := by kernel_rfl
@[push_cast] theorem cc73 : Go.Abs.concrete Try.prog 73 = true := by kernel_rfl
@[push_cast] theorem isl73 : isSlc Try.prog 73 = false := by kernel_rfl
@[push_cast] theorem ist73 : isStr Try.prog 73 = false := by kernel_rfl
@[push_cast] theorem ik73 : ikd Try.prog 73 = none := by kernel_rfl
@[push_cast] theorem tk74 : tk Try.prog 74 = .scal := by kernel_rfl
@[push_cast] theorem zc74 : zc Try.prog 74 = some [.nilFunc] := by kernel_rfl
@[push_cast] theorem nk74 : nk Try.prog 74 = .fnc := by kernel_rfl
@[push_cast] theorem cc74 : Go.Abs.concrete Try.prog 74 = true := by kernel_rfl
@[push_cast] theorem isl74 : isSlc Try.prog 74 = false := by kernel_rfl
@[push_cast] theorem ist74 : isStr Try.prog 74 = false := by kernel_rfl
@[push_cast] theorem ik74 : ikd Try.prog 74 = none := by kernel_rfl
@[push_cast] theorem tk75 : tk Try.prog 75 = .scal := by kernel_rfl
@[push_cast] theorem zc75 : zc Try.prog 75 = some [.nilFunc] := by kernel_rfl
@[push_cast] theorem nk75 : nk Try.prog 75 = .fnc := by kernel_rfl
@[push_cast] theorem cc75 : Go.Abs.concrete Try.prog 75 = true := by kernel_rfl
@[push_cast] theorem isl75 : isSlc Try.prog 75 = false := by kernel_rfl
@[push_cast] theorem ist75 : isStr Try.prog 75 = false := by kernel_rfl
@[push_cast] theorem ik75 : ikd Try.prog 75 = none := by kernel_rfl
@[push_cast] theorem tk76 : tk Try.prog 76 = .scal := by kernel_rfl
@[push_cast] theorem zc76 : zc Try.prog 76 = some [.nilFunc] := by kernel_rfl
@[push_cast] theorem nk76 : nk Try.prog 76 = .fnc := by kernel_rfl
@[push_cast] theorem cc76 : Go.Abs.concrete Try.prog 76 = true := by kernel_rfl
@[push_cast] theorem isl76 : isSlc Try.prog 76 = false := by kernel_rfl
@[push_cast] theorem ist76 : isStr Try.prog 76 = false := by kernel_rfl
@[push_cast] theorem ik76 : ikd Try.prog 76 = none := by kernel_rfl
@[push_cast] theorem tk77 : tk Try.prog 77 = .scal := by kernel_rfl
@[push_cast] theorem zc77 : zc Try.prog 77 = some [.nilFunc] := by kernel_rfl
@[push_cast] theorem nk77 : nk Try.prog 77 = .fnc := by kernel_rfl
@[push_cast] theorem cc77 : Go.Abs.concrete Try.prog 77 = true := by kernel_rfl
@[push_cast] theorem isl77 : isSlc Try.prog 77 = false := by kernel_rfl
@[push_cast] theorem ist77 : isStr Try.prog 77 = false := by kernel_rfl
@[push_cast] theorem ik77 : ikd Try.prog 77 = none := by kernel_rfl
@[push_cast] theorem tk78 : tk Try.prog 78 = .scal := by kernel_rfl
@[push_cast] theorem zc78 : zc Try.prog 78 = some [.slice none 0 0] := by kernel_rfl
@[push_cast] theorem nk78 : nk Try.prog 78 = .slc := by kernel_rfl
@[push_cast] theorem cc78 : Go.Abs.concrete Try.prog 78 = true := by kernel_rfl
@[push_cast] theorem isl78 : isSlc Try.prog 78 = true := by kernel_rfl
@[push_cast] theorem ist78 : isStr Try.prog 78 = false := by kernel_rfl
@[push_cast] theorem ik78 : ikd Try.prog 78 = none := by kernel_rfl
@[push_cast] theorem es78 : elSz Try.prog 78 = some 7 := by kernel_rfl
@[push_cast] theorem eb78 : elB Try.prog 78 = 64 := by kernel_rfl
@[push_cast] theorem el78 : elT Try.prog 78 = some 61 := by kernel_rfl
@[push_cast] theorem by78 : isBys Try.prog 78 = false := by kernel_rfl
@[push_cast] theorem tk79 : tk Try.prog 79 = .scal := by kernel_rfl
@[push_cast] theorem zc79 : zc Try.prog 79 = some [.nilFunc] := by kernel_rfl
@[push_cast] theorem nk79 : nk Try.prog 79 = .fnc := by kernel_rfl
@[push_cast] theorem cc79 : Go.Abs.concrete Try.prog 79 = true := by kernel_rfl
@[push_cast] theorem isl79 : isSlc Try.prog 79 = false := by kernel_rfl
@[push_cast] theorem ist79 : isStr Try.prog 79 = false := by kernel_rfl
@[push_cast] theorem ik79 : ikd Try.prog 79 = none := by kernel_rfl
@[push_cast] theorem tk80 : tk Try.prog 80 = .scal := by kernel_rfl
@[push_cast] theorem zc80 : zc Try.prog 80 = some [.nilFunc] := by kernel_rfl
@[push_cast] theorem nk80 : nk Try.prog 80 = .fnc := by kernel_rfl
@[push_cast] theorem cc80 : Go.Abs.concrete Try.prog 80 = true := by kernel_rfl
@[push_cast] theorem isl80 : isSlc Try.prog 80 = false := by kernel_rfl
@[push_cast] theorem ist80 : isStr Try.prog 80 = false := by kernel_rfl
@[push_cast] theorem ik80 : ikd Try.prog 80 = none := by kernel_rfl
@[push_cast] theorem tk81 : tk Try.prog 81 = .scal := by kernel_rfl
@[push_cast] theorem zc81 : zc Try.prog 81 = some [.nilFunc] := by kernel_rfl
@[push_cast] theorem nk81 : nk Try.prog 81 = .fnc := by kernel_rfl
@[push_cast] theorem cc81 : Go.Abs.concrete Try.prog 81 = true := by kernel_rfl
@[push_cast] theorem isl81 : isSlc Try.prog 81 = false := by kernel_rfl
@[push_cast] theorem ist81 : isStr Try.prog 81 = false := by kernel_rfl
@[push_cast] theorem ik81 : ikd Try.prog 81 = none := by kernel_rfl
@[push_cast] theorem tk82 : tk Try.prog 82 = .scal := by kernel_rfl
@[push_cast] theorem zc82 : zc Try.prog 82 = some [.nilFunc] := by kernel_rfl
@[push_cast] theorem nk82 : nk Try.prog 82 = .fnc := by kernel_rfl
@[push_cast] theorem cc82 : Go.Abs.concrete Try.prog 82 = true := by kernel_rfl
@[push_cast] theorem isl82 : isSlc Try.prog 82 = false := by kernel_rfl
@[push_cast] theorem ist82 : isStr Try.prog 82 = false := by kernel_rfl
@[push_cast] theorem ik82 : ikd Try.prog 82 = none := by kernel_rfl
@[push_cast] theorem tk83 : tk Try.prog 83 = .scal := by kernel_rfl
@[push_cast] theorem zc83 : zc Try.prog 83 = some [.nilFunc] := by kernel_rfl
@[push_cast] theorem nk83 : nk Try.prog 83 = .fnc := by kernel_rfl
@[push_cast] theorem cc83 : Go.Abs.concrete Try.prog 83 = true := by kernel_rfl
@[push_cast] theorem isl83 : isSlc Try.prog 83 = false := by kernel_rfl
@[push_cast] theorem ist83 : isStr Try.prog 83 = false := by kernel_rfl
@[push_cast] theorem ik83 : ikd Try.prog 83 = none := by kernel_rfl
@[push_cast] theorem tk84 : tk Try.prog 84 = .scal := by kernel_rfl
@[push_cast] theorem zc84 : zc Try.prog 84 = some [.nilFunc] := by kernel_rfl
@[push_cast] theorem nk84 : nk Try.prog 84 = .fnc := by kernel_rfl
@[push_cast] theorem cc84 : Go.Abs.concrete Try.prog 84 = true := by kernel_rfl
@[push_cast] theorem isl84 : isSlc Try.prog 84 = false := by kernel_rfl
@[push_cast] theorem ist84 : isStr Try.prog 84 = false := by kernel_rfl
@[push_cast] theorem ik84 : ikd Try.prog 84 = none := by kernel_rfl
@[push_cast] theorem tk85 : tk Try.prog 85 = .scal := by kernel_rfl
@[push_cast] theorem zc85 : zc Try.prog 85 = some [.nilFunc] := by kernel_rfl
@[push_cast] theorem nk85 : nk Try.prog 85 = .fnc := by kernel_rfl
@[push_cast] theorem cc85 : Go.Abs.concrete Try.prog 85 = true := by kernel_rfl
@[push_cast] theorem isl85 : isSlc Try.prog 85 = false := by kernel_rfl
@[push_cast] theorem ist85 : isStr Try.prog 85 = false := by kernel_rfl
@[push_cast] theorem ik85 : ikd Try.prog 85 = none := by kernel_rfl
@[push_cast] theorem tk86 : tk Try.prog 86 = .scal := by kernel_rfl
@[push_cast] theorem zc86 : zc Try.prog 86 = some [.nilFunc] := by kernel_rfl
@[push_cast] theorem nk86 : nk Try.prog 86 = .fnc := by kernel_rfl
@[push_cast] theorem cc86 : Go.Abs.concrete Try.prog 86 = true := by kernel_rfl
@[push_cast] theorem isl86 : isSlc Try.prog 86 = false := by kernel_rfl
@[push_cast] theorem ist86 : isStr Try.prog 86 = false := by kernel_rfl
@[push_cast] theorem ik86 : ikd Try.prog 86 = none := by kernel_rfl
@[push_cast] theorem tk87 : tk Try.prog 87 = .scal := by kernel_rfl
@[push_cast] theorem zc87 : zc Try.prog 87 = some [.nilFunc] := by kernel_rfl
@[push_cast] theorem nk87 : nk Try.prog 87 = .fnc := by kernel_rfl
@[push_cast] theorem cc87 : Go.Abs.concrete Try.prog 87 = true := by kernel_rfl
@[push_cast] theorem isl87 : isSlc Try.prog 87 = false := by kernel_rfl
@[push_cast] theorem ist87 : isStr Try.prog 87 = false := by kernel_rfl
@[push_cast] theorem ik87 : ikd Try.prog 87 = none := by kernel_rfl
@[push_cast] theorem tk88 : tk Try.prog 88 = .scal := by kernel_rfl
@[push_cast] theorem zc88 : zc Try.prog 88 = some [.int .i64 0] := by kernel_rfl
@[push_cast] theorem nk88 : nk Try.prog 88 = .other := by kernel_rfl
@[push_cast] theorem cc88 : Go.Abs.concrete Try.prog 88 = true := by kernel_rfl
@[push_cast] theorem isl88 : isSlc Try.prog 88 = false := by kernel_rfl
@[push_cast] theorem ist88 : isStr Try.prog 88 = false := by kernel_rfl
@[push_cast] theorem ik88 : ikd Try.prog 88 = some .i64 := by kernel_rfl
@[push_cast] theorem tk89 : tk Try.prog 89 = .aggr 7 := by kernel_rfl
@[push_cast] theorem zc89 : zc Try.prog 89 = some [.int .i64 0, .int .u16 0, .string ⟨#[]⟩, .int .i64 0, .int .i64 0, .int .i64 0, .int .i64 0] := by kernel_rfl
@[push_cast] theorem fld89_0 : fld Try.prog 89 0 = some (0, .scal) := by kernel_rfl
@[push_cast] theorem fld89_1 : fld Try.prog 89 1 = some (1, .scal) := by kernel_rfl
@[push_cast] theorem fld89_2 : fld Try.prog 89 2 = some (2, .scal) := by kernel_rfl
@[push_cast] theorem fld89_3 : fld Try.prog 89 3 = some (3, .scal) := by kernel_rfl
@[push_cast] theorem fld89_4 : fld Try.prog 89 4 = some (4, .scal) := by kernel_rfl
@[push_cast] theorem fld89_5 : fld Try.prog 89 5 = some (5, .scal) := by kernel_rfl
@[push_cast] theorem fld89_6 : fld Try.prog 89 6 = some (6, .scal) := by kernel_rfl
@[push_cast] theorem pl89 : places Try.prog 89 = some [(0, 1), (1, 1), (2, 1), (3, 1), (4, 1), (5, 1), (6, 1)] := by kernel_rfl
@[push_cast] theorem nk89 : nk Try.prog 89 = .other := by kernel_rfl
@[push_cast] theorem cc89 : Go.Abs.concrete Try.prog 89 = true := by kernel_rfl
@[push_cast] theorem isl89 : isSlc Try.prog 89 = false := by kernel_rfl
@[push_cast] theorem ist89 : isStr Try.prog 89 = false := by kernel_rfl
@[push_cast] theorem ik89 : ikd Try.prog 89 = none := by kernel_rfl
@[push_cast] theorem tk91 : tk Try.prog 91 = .scal := by kernel_rfl
@[push_cast] theorem zc91 : zc Try.prog 91 = some [.nilFunc] := by kernel_rfl
@[push_cast] theorem nk91 : nk Try.prog 91 = .fnc := by kernel_rfl
@[push_cast] theorem cc91 : Go.Abs.concrete Try.prog 91 = true := by kernel_rfl
@[push_cast] theorem isl91 : isSlc Try.prog 91 = false := by kernel_rfl
@[push_cast] theorem ist91 : isStr Try.prog 91 = false := by kernel_rfl
@[push_cast] theorem ik91 : ikd Try.prog 91 = none := by kernel_rfl
@[push_cast] theorem tk92 : tk Try.prog 92 = .scal := by kernel_rfl
@[push_cast] theorem zc92 : zc Try.prog 92 = some [.nilFunc] := by kernel_rfl
@[push_cast] theorem nk92 : nk Try.prog 92 = .fnc := by kernel_rfl
@[push_cast] theorem cc92 : Go.Abs.concrete Try.prog 92 = true := by kernel_rfl
@[push_cast] theorem isl92 : isSlc Try.prog 92 = false := by kernel_rfl
@[push_cast] theorem ist92 : isStr Try.prog 92 = false := by kernel_rfl
@[push_cast] theorem ik92 : ikd Try.prog 92 = none := by kernel_rfl
@[push_cast] theorem tk93 : tk Try.prog 93 = .scal := by kernel_rfl
@[push_cast] theorem zc93 : zc Try.prog 93 = some [.nilFunc] := by kernel_rfl
@[push_cast] theorem nk93 : nk Try.prog 93 = .fnc := by kernel_rfl
@[push_cast] theorem cc93 : Go.Abs.concrete Try.prog 93 = true := by kernel_rfl
@[push_cast] theorem isl93 : isSlc Try.prog 93 = false := by kernel_rfl
@[push_cast] theorem ist93 : isStr Try.prog 93 = false := by kernel_rfl
@[push_cast] theorem ik93 : ikd Try.prog 93 = none := by kernel_rfl
@[push_cast] theorem tk94 : tk Try.prog 94 = .scal := by kernel_rfl
@[push_cast] theorem zc94 : zc Try.prog 94 = some [.nilFunc] := by kernel_rfl
@[push_cast] theorem nk94 : nk Try.prog 94 = .fnc := by kernel_rfl
@[push_cast] theorem cc94 : Go.Abs.concrete Try.prog 94 = true := by kernel_rfl
@[push_cast] theorem isl94 : isSlc Try.prog 94 = false := by kernel_rfl
@[push_cast] theorem ist94 : isStr Try.prog 94 = false := by kernel_rfl
@[push_cast] theorem ik94 : ikd Try.prog 94 = none := by kernel_rfl
@[push_cast] theorem tk96 : tk Try.prog 96 = .scal := by kernel_rfl
@[push_cast] theorem zc96 : zc Try.prog 96 = some [.nilFunc] := by kernel_rfl
@[push_cast] theorem nk96 : nk Try.prog 96 = .fnc := by kernel_rfl
@[push_cast] theorem cc96 : Go.Abs.concrete Try.prog 96 = true := by kernel_rfl
@[push_cast] theorem isl96 : isSlc Try.prog 96 = false := by kernel_rfl
@[push_cast] theorem ist96 : isStr Try.prog 96 = false := by kernel_rfl
@[push_cast] theorem ik96 : ikd Try.prog 96 = none := by kernel_rfl
@[push_cast] theorem tk97 : tk Try.prog 97 = .scal := by kernel_rfl
@[push_cast] theorem zc97 : zc Try.prog 97 = some [.nilFunc] := by kernel_rfl
@[push_cast] theorem nk97 : nk Try.prog 97 = .fnc := by kernel_rfl
@[push_cast] theorem cc97 : Go.Abs.concrete Try.prog 97 = true := by kernel_rfl
@[push_cast] theorem isl97 : isSlc Try.prog 97 = false := by kernel_rfl
@[push_cast] theorem ist97 : isStr Try.prog 97 = false := by kernel_rfl
@[push_cast] theorem ik97 : ikd Try.prog 97 = none := by kernel_rfl
@[push_cast] theorem tk98 : tk Try.prog 98 = .scal := by kernel_rfl
@[push_cast] theorem zc98 : zc Try.prog 98 = some [.map none] := by kernel_rfl
@[push_cast] theorem mk98 : mpKey Try.prog 98 = some (.u16, 89) := by kernel_rfl
@[push_cast] theorem mz98 : mpZero Try.prog 89 = some (.agg #[.int .i64 0, .int .u16 0, .string ⟨#[]⟩, .int .i64 0, .int .i64 0, .int .i64 0, .int .i64 0]) := by kernel_rfl
@[push_cast] theorem nk98 : nk Try.prog 98 = .other := by kernel_rfl
@[push_cast] theorem cc98 : Go.Abs.concrete Try.prog 98 = true := by kernel_rfl
@[push_cast] theorem isl98 : isSlc Try.prog 98 = false := by kernel_rfl
@[push_cast] theorem ist98 : isStr Try.prog 98 = false := by kernel_rfl
@[push_cast] theorem ik98 : ikd Try.prog 98 = none := by kernel_rfl
@[push_cast] theorem tk99 : tk Try.prog 99 = .scal := by kernel_rfl
@[push_cast] theorem zc99 : zc Try.prog 99 = some [.nilFunc] := by kernel_rfl
@[push_cast] theorem nk99 : nk Try.prog 99 = .fnc := by kernel_rfl
@[push_cast] theorem cc99 : Go.Abs.concrete Try.prog 99 = true := by kernel_rfl
@[push_cast] theorem isl99 : isSlc Try.prog 99 = false := by kernel_rfl
@[push_cast] theorem ist99 : isStr Try.prog 99 = false := by kernel_rfl
@[push_cast] theorem ik99 : ikd Try.prog 99 = none := by kernel_rfl
@[push_cast] theorem tk100 : tk Try.prog 100 = .scal := by kernel_rfl
@[push_cast] theorem zc100 : zc Try.prog 100 = some [.pointer none] := by kernel_rfl
@[push_cast] theorem nk100 : nk Try.prog 100 = .ptr := by kernel_rfl
@[push_cast] theorem cc100 : Go.Abs.concrete Try.prog 100 = true := by kernel_rfl
@[push_cast] theorem isl100 : isSlc Try.prog 100 = false := by kernel_rfl
@[push_cast] theorem ist100 : isStr Try.prog 100 = false := by kernel_rfl
@[push_cast] theorem ik100 : ikd Try.prog 100 = none := by kernel_rfl
@[push_cast] theorem tk101 : tk Try.prog 101 = .scal := by kernel_rfl
@[push_cast] theorem zc101 : zc Try.prog 101 = some [.nilFunc] := by kernel_rfl
@[push_cast] theorem nk101 : nk Try.prog 101 = .fnc := by kernel_rfl
@[push_cast] theorem cc101 : Go.Abs.concrete Try.prog 101 = true := by kernel_rfl
@[push_cast] theorem isl101 : isSlc Try.prog 101 = false := by kernel_rfl
@[push_cast] theorem ist101 : isStr Try.prog 101 = false := by kernel_rfl
@[push_cast] theorem ik101 : ikd Try.prog 101 = none := by kernel_rfl
@[push_cast] theorem tk102 : tk Try.prog 102 = .scal := by kernel_rfl
@[push_cast] theorem zc102 : zc Try.prog 102 = some [.nilFunc] := by kernel_rfl
@[push_cast] theorem nk102 : nk Try.prog 102 = .fnc := by kernel_rfl
@[push_cast] theorem cc102 : Go.Abs.concrete Try.prog 102 = true := by kernel_rfl
@[push_cast] theorem isl102 : isSlc Try.prog 102 = false := by kernel_rfl
@[push_cast] theorem ist102 : isStr Try.prog 102 = false := by kernel_rfl
@[push_cast] theorem ik102 : ikd Try.prog 102 = none := by kernel_rfl
@[push_cast] theorem tk103 : tk Try.prog 103 = .scal := by kernel_rfl
@[push_cast] theorem zc103 : zc Try.prog 103 = some [.slice none 0 0] := by kernel_rfl
@[push_cast] theorem nk103 : nk Try.prog 103 = .slc := by kernel_rfl
@[push_cast] theorem cc103 : Go.Abs.concrete Try.prog 103 = true := by kernel_rfl
@[push_cast] theorem isl103 : isSlc Try.prog 103 = true := by kernel_rfl
@[push_cast] theorem ist103 : isStr Try.prog 103 = false := by kernel_rfl
@[push_cast] theorem ik103 : ikd Try.prog 103 = none := by kernel_rfl
@[push_cast] theorem es103 : elSz Try.prog 103 = some 2 := by kernel_rfl
@[push_cast] theorem eb103 : elB Try.prog 103 = 32 := by kernel_rfl
@[push_cast] theorem el103 : elT Try.prog 103 = some 105 := by kernel_rfl
@[push_cast] theorem by103 : isBys Try.prog 103 = false := by kernel_rfl
@[push_cast] theorem tk104 : tk Try.prog 104 = .aggr 2 := by kernel_rfl
@[push_cast] theorem zc104 : zc Try.prog 104 = some [.int .u16 0, .slice none 0 0] := by kernel_rfl
@[push_cast] theorem fld104_0 : fld Try.prog 104 0 = some (0, .scal) := by kernel_rfl
@[push_cast] theorem fld104_1 : fld Try.prog 104 1 = some (1, .scal) := by kernel_rfl
@[push_cast] theorem pl104 : places Try.prog 104 = some [(0, 1), (1, 1)] := by kernel_rfl
@[push_cast] theorem nk104 : nk Try.prog 104 = .other := by kernel_rfl
@[push_cast] theorem cc104 : Go.Abs.concrete Try.prog 104 = true := by kernel_rfl
@[push_cast] theorem isl104 : isSlc Try.prog 104 = false := by kernel_rfl
@[push_cast] theorem ist104 : isStr Try.prog 104 = false := by kernel_rfl
@[push_cast] theorem ik104 : ikd Try.prog 104 = none := by kernel_rfl
@[push_cast] theorem tk105 : tk Try.prog 105 = .aggr 2 := by kernel_rfl
@[push_cast] theorem zc105 : zc Try.prog 105 = some [.int .u16 0, .slice none 0 0] := by kernel_rfl
@[push_cast] theorem fld105_0 : fld Try.prog 105 0 = some (0, .scal) := by kernel_rfl
@[push_cast] theorem fld105_1 : fld Try.prog 105 1 = some (1, .scal) := by kernel_rfl
@[push_cast] theorem pl105 : places Try.prog 105 = some [(0, 1), (1, 1)] := by kernel_rfl
@[push_cast] theorem nk105 : nk Try.prog 105 = .other := by kernel_rfl
@[push_cast] theorem cc105 : Go.Abs.concrete Try.prog 105 = true := by kernel_rfl
@[push_cast] theorem isl105 : isSlc Try.prog 105 = false := by kernel_rfl
@[push_cast] theorem ist105 : isStr Try.prog 105 = false := by kernel_rfl
@[push_cast] theorem ik105 : ikd Try.prog 105 = none := by kernel_rfl
@[push_cast] theorem tk106 : tk Try.prog 106 = .scal := by kernel_rfl
@[push_cast] theorem zc106 : zc Try.prog 106 = some [.nilFunc] := by kernel_rfl
@[push_cast] theorem nk106 : nk Try.prog 106 = .fnc := by kernel_rfl
@[push_cast] theorem cc106 : Go.Abs.concrete Try.prog 106 = true := by kernel_rfl
@[push_cast] theorem isl106 : isSlc Try.prog 106 = false := by kernel_rfl
@[push_cast] theorem ist106 : isStr Try.prog 106 = false := by kernel_rfl
@[push_cast] theorem ik106 : ikd Try.prog 106 = none := by kernel_rfl
@[push_cast] theorem tk107 : tk Try.prog 107 = .scal := by kernel_rfl
@[push_cast] theorem zc107 : zc Try.prog 107 = some [.slice none 0 0] := by kernel_rfl
@[push_cast] theorem nk107 : nk Try.prog 107 = .slc := by kernel_rfl
@[push_cast] theorem cc107 : Go.Abs.concrete Try.prog 107 = true := by kernel_rfl
@[push_cast] theorem isl107 : isSlc Try.prog 107 = true := by kernel_rfl
@[push_cast] theorem ist107 : isStr Try.prog 107 = false := by kernel_rfl
@[push_cast] theorem ik107 : ikd Try.prog 107 = none := by kernel_rfl
@[push_cast] theorem es107 : elSz Try.prog 107 = some 7 := by kernel_rfl
@[push_cast] theorem eb107 : elB Try.prog 107 = 64 := by kernel_rfl
@[push_cast] theorem el107 : elT Try.prog 107 = some 89 := by kernel_rfl
@[push_cast] theorem by107 : isBys Try.prog 107 = false := by kernel_rfl
@[push_cast] theorem tk108 : tk Try.prog 108 = .aggr 3 := by kernel_rfl
@[push_cast] theorem zc108 : zc Try.prog 108 = some [.slice none 0 0, .slice none 0 0, .slice none 0 0] := by kernel_rfl
@[push_cast] theorem pl108 : places Try.prog 108 = some [(0, 1), (1, 1), (2, 1)] := by kernel_rfl
@[push_cast] theorem at108 : arrT Try.prog 108 = some (3, 107, 1) := by kernel_rfl
@[push_cast] theorem nk108 : nk Try.prog 108 = .other := by kernel_rfl
@[push_cast] theorem cc108 : Go.Abs.concrete Try.prog 108 = true := by kernel_rfl
@[push_cast] theorem isl108 : isSlc Try.prog 108 = false := by kernel_rfl
@[push_cast] theorem ist108 : isStr Try.prog 108 = false := by kernel_rfl
@[push_cast] theorem ik108 : ikd Try.prog 108 = none := by kernel_rfl
@[push_cast] theorem tk109 : tk Try.prog 109 = .scal := by kernel_rfl
@[push_cast] theorem zc109 : zc Try.prog 109 = some [.nilFunc] := by kernel_rfl
@[push_cast] theorem nk109 : nk Try.prog 109 = .fnc := by kernel_rfl
@[push_cast] theorem cc109 : Go.Abs.concrete Try.prog 109 = true := by kernel_rfl
@[push_cast] theorem isl109 : isSlc Try.prog 109 = false := by kernel_rfl
@[push_cast] theorem ist109 : isStr Try.prog 109 = false := by kernel_rfl
@[push_cast] theorem ik109 : ikd Try.prog 109 = none := by kernel_rfl
@[push_cast] theorem tk110 : tk Try.prog 110 = .aggr 2 := by kernel_rfl
@[push_cast] theorem zc110 : zc Try.prog 110 = some [.slice none 0 0, .int .i64 0] := by kernel_rfl
@[push_cast] theorem fld110_0 : fld Try.prog 110 0 = some (0, .scal) := by kernel_rfl
@[push_cast] theorem fld110_1 : fld Try.prog 110 1 = some (1, .scal) := by kernel_rfl
@[push_cast] theorem pl110 : places Try.prog 110 = some [(0, 1), (1, 1)] := by kernel_rfl
@[push_cast] theorem nk110 : nk Try.prog 110 = .other := by kernel_rfl
@[push_cast] theorem cc110 : Go.Abs.concrete Try.prog 110 = true := by kernel_rfl
@[push_cast] theorem isl110 : isSlc Try.prog 110 = false := by kernel_rfl
@[push_cast] theorem ist110 : isStr Try.prog 110 = false := by kernel_rfl
@[push_cast] theorem ik110 : ikd Try.prog 110 = none := by kernel_rfl
@[push_cast] theorem tk111 : tk Try.prog 111 = .aggr 2 := by kernel_rfl
@[push_cast] theorem zc111 : zc Try.prog 111 = some [.slice none 0 0, .int .i64 0] := by kernel_rfl
@[push_cast] theorem fld111_0 : fld Try.prog 111 0 = some (0, .scal) := by kernel_rfl
@[push_cast] theorem fld111_1 : fld Try.prog 111 1 = some (1, .scal) := by kernel_rfl
@[push_cast] theorem pl111 : places Try.prog 111 = some [(0, 1), (1, 1)] := by kernel_rfl
@[push_cast] theorem nk111 : nk Try.prog 111 = .other := by kernel_rfl
@[push_cast] theorem cc111 : Go.Abs.concrete Try.prog 111 = true := by kernel_rfl
@[push_cast] theorem isl111 : isSlc Try.prog 111 = false := by kernel_rfl
@[push_cast] theorem ist111 : isStr Try.prog 111 = false := by kernel_rfl
@[push_cast] theorem ik111 : ikd Try.prog 111 = none := by kernel_rfl
@[push_cast] theorem tk112 : tk Try.prog 112 = .scal := by kernel_rfl
@[push_cast] theorem zc112 : zc Try.prog 112 = some [.slice none 0 0] := by kernel_rfl
@[push_cast] theorem nk112 : nk Try.prog 112 = .slc := by kernel_rfl
@[push_cast] theorem cc112 : Go.Abs.concrete Try.prog 112 = true := by kernel_rfl
@[push_cast] theorem isl112 : isSlc Try.prog 112 = true := by kernel_rfl
@[push_cast] theorem ist112 : isStr Try.prog 112 = false := by kernel_rfl
@[push_cast] theorem ik112 : ikd Try.prog 112 = none := by kernel_rfl
@[push_cast] theorem es112 : elSz Try.prog 112 = some 1 := by kernel_rfl
@[push_cast] theorem eb112 : elB Try.prog 112 = 8 := by kernel_rfl
@[push_cast] theorem el112 : elT Try.prog 112 = some 3 := by kernel_rfl
@[push_cast] theorem by112 : isBys Try.prog 112 = false := by kernel_rfl
@[push_cast] theorem tk113 : tk Try.prog 113 = .scal := by kernel_rfl
@[push_cast] theorem zc113 : zc Try.prog 113 = some [.nilFunc] := by kernel_rfl
@[push_cast] theorem nk113 : nk Try.prog 113 = .fnc := by kernel_rfl
@[push_cast] theorem cc113 : Go.Abs.concrete Try.prog 113 = true := by kernel_rfl
@[push_cast] theorem isl113 : isSlc Try.prog 113 = false := by kernel_rfl
@[push_cast] theorem ist113 : isStr Try.prog 113 = false := by kernel_rfl
@[push_cast] theorem ik113 : ikd Try.prog 113 = none := by kernel_rfl
@[push_cast] theorem tk114 : tk Try.prog 114 = .scal := by kernel_rfl
@[push_cast] theorem zc114 : zc Try.prog 114 = some [.nilFunc] := by kernel_rfl
@[push_cast] theorem nk114 : nk Try.prog 114 = .fnc := by kernel_rfl
@[push_cast] theorem cc114 : Go.Abs.concrete Try.prog 114 = true := by kernel_rfl
@[push_cast] theorem isl114 : isSlc Try.prog 114 = false := by kernel_rfl
@[push_cast] theorem ist114 : isStr Try.prog 114 = false := by kernel_rfl
@[push_cast] theorem ik114 : ikd Try.prog 114 = none := by kernel_rfl
@[push_cast] theorem tk115 : tk Try.prog 115 = .scal := by kernel_rfl
@[push_cast] theorem zc115 : zc Try.prog 115 = some [.nilFunc] := by kernel_rfl
@[push_cast] theorem nk115 : nk Try.prog 115 = .fnc := by kernel_rfl
@[push_cast] theorem cc115 : Go.Abs.concrete Try.prog 115 = true := by kernel_rfl
@[push_cast] theorem isl115 : isSlc Try.prog 115 = false := by kernel_rfl
@[push_cast] theorem ist115 : isStr Try.prog 115 = false := by kernel_rfl
@[push_cast] theorem ik115 : ikd Try.prog 115 = none := by kernel_rfl
@[push_cast] theorem tk116 : tk Try.prog 116 = .scal := by kernel_rfl
@[push_cast] theorem zc116 : zc Try.prog 116 = some [.nilFunc] := by kernel_rfl
@[push_cast] theorem nk116 : nk Try.prog 116 = .fnc := by kernel_rfl
@[push_cast] theorem cc116 : Go.Abs.concrete Try.prog 116 = true := by kernel_rfl
@[push_cast] theorem isl116 : isSlc Try.prog 116 = false := by kernel_rfl
@[push_cast] theorem ist116 : isStr Try.prog 116 = false := by kernel_rfl
@[push_cast] theorem ik116 : ikd Try.prog 116 = none := by kernel_rfl
@[push_cast] theorem tk117 : tk Try.prog 117 = .aggr 4 := by kernel_rfl
@[push_cast] theorem zc117 : zc Try.prog 117 = some [.pointer none, .pointer none, .pointer none, .string ⟨#[]⟩] := by kernel_rfl
@[push_cast] theorem fld117_0 : fld Try.prog 117 0 = some (0, .scal) := by kernel_rfl
@[push_cast] theorem fld117_1 : fld Try.prog 117 1 = some (1, .scal) := by kernel_rfl
@[push_cast] theorem fld117_2 : fld Try.prog 117 2 = some (2, .scal) := by kernel_rfl
@[push_cast] theorem fld117_3 : fld Try.prog 117 3 = some (3, .scal) := by kernel_rfl
@[push_cast] theorem pl117 : places Try.prog 117 = some [(0, 1), (1, 1), (2, 1), (3, 1)] := by kernel_rfl
@[push_cast] theorem nk117 : nk Try.prog 117 = .other := by kernel_rfl
@[push_cast] theorem cc117 : Go.Abs.concrete Try.prog 117 = true := by kernel_rfl
@[push_cast] theorem isl117 : isSlc Try.prog 117 = false := by kernel_rfl
@[push_cast] theorem ist117 : isStr Try.prog 117 = false := by kernel_rfl
@[push_cast] theorem ik117 : ikd Try.prog 117 = none := by kernel_rfl
@[push_cast] theorem tk118 : tk Try.prog 118 = .aggr 4 := by kernel_rfl
@[push_cast] theorem zc118 : zc Try.prog 118 = some [.pointer none, .pointer none, .pointer none, .string ⟨#[]⟩] := by kernel_rfl
@[push_cast] theorem fld118_0 : fld Try.prog 118 0 = some (0, .scal) := by kernel_rfl
@[push_cast] theorem fld118_1 : fld Try.prog 118 1 = some (1, .scal) := by kernel_rfl
@[push_cast] theorem fld118_2 : fld Try.prog 118 2 = some (2, .scal) := by kernel_rfl
@[push_cast] theorem fld118_3 : fld Try.prog 118 3 = some (3, .scal) := by kernel_rfl
@[push_cast] theorem pl118 : places Try.prog 118 = some [(0, 1), (1, 1), (2, 1), (3, 1)] := by kernel_rfl
@[push_cast] theorem nk118 : nk Try.prog 118 = .other := by kernel_rfl
@[push_cast] theorem cc118 : Go.Abs.concrete Try.prog 118 = true := by kernel_rfl
@[push_cast] theorem isl118 : isSlc Try.prog 118 = false := by kernel_rfl
@[push_cast] theorem ist118 : isStr Try.prog 118 = false := by kernel_rfl
@[push_cast] theorem ik118 : ikd Try.prog 118 = none := by kernel_rfl
@[push_cast] theorem tk119 : tk Try.prog 119 = .aggr 0 := by kernel_rfl
@[push_cast] theorem zc119 : zc Try.prog 119 = some [] := by kernel_rfl
@[push_cast] theorem pl119 : places Try.prog 119 = some [] := by kernel_rfl
@[push_cast] theorem at119 : arrT Try.prog 119 = some (0, 16, 1) := by kernel_rfl
@[push_cast] theorem nk119 : nk Try.prog 119 = .other := by kernel_rfl
@[push_cast] theorem cc119 : Go.Abs.concrete Try.prog 119 = true := by kernel_rfl
@[push_cast] theorem isl119 : isSlc Try.prog 119 = false := by kernel_rfl
@[push_cast] theorem ist119 : isStr Try.prog 119 = false := by kernel_rfl
@[push_cast] theorem ik119 : ikd Try.prog 119 = none := by kernel_rfl
@[push_cast] theorem tk120 : tk Try.prog 120 = .aggr 0 := by kernel_rfl
@[push_cast] theorem zc120 : zc Try.prog 120 = some [] := by kernel_rfl
@[push_cast] theorem pl120 : places Try.prog 120 = some [(0, 0)] := by kernel_rfl
@[push_cast] theorem nk120 : nk Try.prog 120 = .other := by kernel_rfl
@[push_cast] theorem cc120 : Go.Abs.concrete Try.prog 120 = true := by kernel_rfl
@[push_cast] theorem isl120 : isSlc Try.prog 120 = false := by kernel_rfl
@[push_cast] theorem ist120 : isStr Try.prog 120 = false := by kernel_rfl
@[push_cast] theorem ik120 : ikd Try.prog 120 = none := by kernel_rfl
@[push_cast] theorem tk121 : tk Try.prog 121 = .aggr 0 := by kernel_rfl
@[push_cast] theorem zc121 : zc Try.prog 121 = some [] := by kernel_rfl
@[push_cast] theorem pl121 : places Try.prog 121 = some [(0, 0)] := by kernel_rfl
@[push_cast] theorem nk121 : nk Try.prog 121 = .other := by kernel_rfl
@[push_cast] theorem cc121 : Go.Abs.concrete Try.prog 121 = true := by kernel_rfl
@[push_cast] theorem isl121 : isSlc Try.prog 121 = false := by kernel_rfl
@[push_cast] theorem ist121 : isStr Try.prog 121 = false := by kernel_rfl
@[push_cast] theorem ik121 : ikd Try.prog 121 = none := by kernel_rfl
@[push_cast] theorem tk122 : tk Try.prog 122 = .scal := by kernel_rfl
@[push_cast] theorem zc122 : zc Try.prog 122 = some [.int .u8 0] := by kernel_rfl
@[push_cast] theorem nk122 : nk Try.prog 122 = .other := by kernel_rfl
@[push_cast] theorem cc122 : Go.Abs.concrete Try.prog 122 = true := by kernel_rfl
@[push_cast] theorem isl122 : isSlc Try.prog 122 = false := by kernel_rfl
@[push_cast] theorem ist122 : isStr Try.prog 122 = false := by kernel_rfl
@[push_cast] theorem ik122 : ikd Try.prog 122 = some .u8 := by kernel_rfl
@[push_cast] theorem tk123 : tk Try.prog 123 = .scal := by kernel_rfl
@[push_cast] theorem zc123 : zc Try.prog 123 = some [.int .u8 0] := by kernel_rfl
@[push_cast] theorem nk123 : nk Try.prog 123 = .other := by kernel_rfl
@[push_cast] theorem cc123 : Go.Abs.concrete Try.prog 123 = true := by kernel_rfl
@[push_cast] theorem isl123 : isSlc Try.prog 123 = false := by kernel_rfl
@[push_cast] theorem ist123 : isStr Try.prog 123 = false := by kernel_rfl
@[push_cast] theorem ik123 : ikd Try.prog 123 = some .u8 := by kernel_rfl
@[push_cast] theorem tk124 : tk Try.prog 124 = .scal := by kernel_rfl
@[push_cast] theorem zc124 : zc Try.prog 124 = some [.nilFunc] := by kernel_rfl
@[push_cast] theorem nk124 : nk Try.prog 124 = .fnc := by kernel_rfl
@[push_cast] theorem cc124 : Go.Abs.concrete Try.prog 124 = true := by kernel_rfl
@[push_cast] theorem isl124 : isSlc Try.prog 124 = false := by kernel_rfl
@[push_cast] theorem ist124 : isStr Try.prog 124 = false := by kernel_rfl
@[push_cast] theorem ik124 : ikd Try.prog 124 = none := by kernel_rfl
@[push_cast] theorem tk125 : tk Try.prog 125 = .scal := by kernel_rfl
@[push_cast] theorem zc125 : zc Try.prog 125 = some [.pointer none] := by kernel_rfl
@[push_cast] theorem nk125 : nk Try.prog 125 = .ptr := by kernel_rfl
@[push_cast] theorem cc125 : Go.Abs.concrete Try.prog 125 = true := by kernel_rfl
@[push_cast] theorem isl125 : isSlc Try.prog 125 = false := by kernel_rfl
@[push_cast] theorem ist125 : isStr Try.prog 125 = false := by kernel_rfl
@[push_cast] theorem ik125 : ikd Try.prog 125 = none := by kernel_rfl
@[push_cast] theorem tk126 : tk Try.prog 126 = .scal := by kernel_rfl
@[push_cast] theorem zc126 : zc Try.prog 126 = some [.int .i32 0] := by kernel_rfl
@[push_cast] theorem nk126 : nk Try.prog 126 = .other := by kernel_rfl
@[push_cast] theorem cc126 : Go.Abs.concrete Try.prog 126 = true := by kernel_rfl
@[push_cast] theorem isl126 : isSlc Try.prog 126 = false := by kernel_rfl
@[push_cast] theorem ist126 : isStr Try.prog 126 = false := by kernel_rfl
@[push_cast] theorem ik126 : ikd Try.prog 126 = some .i32 := by kernel_rfl
@[push_cast] theorem tk127 : tk Try.prog 127 = .scal := by kernel_rfl
@[push_cast] theorem zc127 : zc Try.prog 127 = some [.int .i32 0] := by kernel_rfl
@[push_cast] theorem nk127 : nk Try.prog 127 = .other := by kernel_rfl
@[push_cast] theorem cc127 : Go.Abs.concrete Try.prog 127 = true := by kernel_rfl
@[push_cast] theorem isl127 : isSlc Try.prog 127 = false := by kernel_rfl
@[push_cast] theorem ist127 : isStr Try.prog 127 = false := by kernel_rfl
@[push_cast] theorem ik127 : ikd Try.prog 127 = some .i32 := by kernel_rfl
@[push_cast] theorem tk128 : tk Try.prog 128 = .aggr 11 := by kernel_rfl
@[push_cast] theorem zc128 : zc Try.prog 128 = some [.int .u64 0, .int .u64 0, .int .u32 0, .int .u8 0, .int .u8 0, .int .u8 0, .int .u8 0, .nilFunc, .pointer none, .int .i32 0, .int .i32 0] := by kernel_rfl
@[push_cast] theorem fld128_0 : fld Try.prog 128 0 = some (0, .scal) := by kernel_rfl
@[push_cast] theorem fld128_1 : fld Try.prog 128 1 = some (1, .scal) := by kernel_rfl
@[push_cast] theorem fld128_2 : fld Try.prog 128 2 = some (2, .scal) := by kernel_rfl
@[push_cast] theorem fld128_3 : fld Try.prog 128 3 = some (3, .scal) := by kernel_rfl
@[push_cast] theorem fld128_4 : fld Try.prog 128 4 = some (4, .scal) := by kernel_rfl
@[push_cast] theorem fld128_5 : fld Try.prog 128 5 = some (5, .scal) := by kernel_rfl
@[push_cast] theorem fld128_6 : fld Try.prog 128 6 = some (6, .scal) := by kernel_rfl
@[push_cast] theorem fld128_7 : fld Try.prog 128 7 = some (7, .scal) := by kernel_rfl
@[push_cast] theorem fld128_8 : fld Try.prog 128 8 = some (8, .scal) := by kernel_rfl
@[push_cast] theorem fld128_9 : fld Try.prog 128 9 = some (9, .scal) := by kernel_rfl
@[push_cast] theorem fld128_10 : fld Try.prog 128 10 = some (10, .scal) := by kernel_rfl
@[push_cast] theorem pl128 : places Try.prog 128 = some [(0, 1), (1, 1), (2, 1), (3, 1), (4, 1), (5, 1), (6, 1), (7, 1), (8, 1), (9, 1), (10, 1)] := by kernel_rfl
@[push_cast] theorem nk128 : nk Try.prog 128 = .other := by kernel_rfl
@[push_cast] theorem cc128 : Go.Abs.concrete Try.prog 128 = true := by kernel_rfl
@[push_cast] theorem isl128 : isSlc Try.prog 128 = false := by kernel_rfl
@[push_cast] theorem ist128 : isStr Try.prog 128 = false := by kernel_rfl
@[push_cast] theorem ik128 : ikd Try.prog 128 = none := by kernel_rfl
@[push_cast] theorem tk129 : tk Try.prog 129 = .aggr 11 := by kernel_rfl
@[push_cast] theorem zc129 : zc Try.prog 129 = some [.int .u64 0, .int .u64 0, .int .u32 0, .int .u8 0, .int .u8 0, .int .u8 0, .int .u8 0, .nilFunc, .pointer none, .int .i32 0, .int .i32 0] := by kernel_rfl
@[push_cast] theorem fld129_0 : fld Try.prog 129 0 = some (0, .scal) := by kernel_rfl
@[push_cast] theorem fld129_1 : fld Try.prog 129 1 = some (1, .scal) := by kernel_rfl
@[push_cast] theorem fld129_2 : fld Try.prog 129 2 = some (2, .scal) := by kernel_rfl
@[push_cast] theorem fld129_3 : fld Try.prog 129 3 = some (3, .scal) := by kernel_rfl
@[push_cast] theorem fld129_4 : fld Try.prog 129 4 = some (4, .scal) := by kernel_rfl
@[push_cast] theorem fld129_5 : fld Try.prog 129 5 = some (5, .scal) := by kernel_rfl
@[push_cast] theorem fld129_6 : fld Try.prog 129 6 = some (6, .scal) := by kernel_rfl
@[push_cast] theorem fld129_7 : fld Try.prog 129 7 = some (7, .scal) := by kernel_rfl
@[push_cast] theorem fld129_8 : fld Try.prog 129 8 = some (8, .scal) := by kernel_rfl
@[push_cast] theorem fld129_9 : fld Try.prog 129 9 = some (9, .scal) := by kernel_rfl
@[push_cast] theorem fld129_10 : fld Try.prog 129 10 = some (10, .scal) := by kernel_rfl
@[push_cast] theorem pl129 : places Try.prog 129 = some [(0, 1), (1, 1), (2, 1), (3, 1), (4, 1), (5, 1), (6, 1), (7, 1), (8, 1), (9, 1), (10, 1)] := by kernel_rfl
@[push_cast] theorem nk129 : nk Try.prog 129 = .other := by kernel_rfl
@[push_cast] theorem cc129 : Go.Abs.concrete Try.prog 129 = true := by kernel_rfl
@[push_cast] theorem isl129 : isSlc Try.prog 129 = false := by kernel_rfl
@[push_cast] theorem ist129 : isStr Try.prog 129 = false := by kernel_rfl
@[push_cast] theorem ik129 : ikd Try.prog 129 = none := by kernel_rfl
@[push_cast] theorem tk130 : tk Try.prog 130 = .scal := by kernel_rfl
@[push_cast] theorem zc130 : zc Try.prog 130 = some [.pointer none] := by kernel_rfl
@[push_cast] theorem nk130 : nk Try.prog 130 = .other := by kernel_rfl
@[push_cast] theorem cc130 : Go.Abs.concrete Try.prog 130 = true := by kernel_rfl
@[push_cast] theorem isl130 : isSlc Try.prog 130 = false := by kernel_rfl
@[push_cast] theorem ist130 : isStr Try.prog 130 = false := by kernel_rfl
@[push_cast] theorem ik130 : ikd Try.prog 130 = none := by kernel_rfl
@[push_cast] theorem mixed : Try.prog.follows .mixedOrders = true := by kernel_rfl
@[push_cast] theorem rg0 : List.range 0 = [] := rfl
@[push_cast] theorem rg1 : List.range 1 = [0] := rfl
@[push_cast] theorem rg2 : List.range 2 = [0, 1] := rfl
@[push_cast] theorem rg3 : List.range 3 = [0, 1, 2] := rfl
@[push_cast] theorem rg4 : List.range 4 = [0, 1, 2, 3] := rfl
@[push_cast] theorem rg5 : List.range 5 = [0, 1, 2, 3, 4] := rfl
@[push_cast] theorem rg6 : List.range 6 = [0, 1, 2, 3, 4, 5] := rfl
@[push_cast] theorem rg7 : List.range 7 = [0, 1, 2, 3, 4, 5, 6] := rfl
@[push_cast] theorem rg8 : List.range 8 = [0, 1, 2, 3, 4, 5, 6, 7] := rfl
@[push_cast] theorem rg9 : List.range 9 = [0, 1, 2, 3, 4, 5, 6, 7, 8] := rfl
@[push_cast] theorem rg10 : List.range 10 = [0, 1, 2, 3, 4, 5, 6, 7, 8, 9] := rfl
@[push_cast] theorem rg11 : List.range 11 = [0, 1, 2, 3, 4, 5, 6, 7, 8, 9, 10] := rfl
@[push_cast] theorem rg12 : List.range 12 = [0, 1, 2, 3, 4, 5, 6, 7, 8, 9, 10, 11] := rfl
@[push_cast] theorem rg13 : List.range 13 = [0, 1, 2, 3, 4, 5, 6, 7, 8, 9, 10, 11, 12] := rfl
@[push_cast] theorem rg14 : List.range 14 = [0, 1, 2, 3, 4, 5, 6, 7, 8, 9, 10, 11, 12, 13] := rfl
@[push_cast] theorem rg15 : List.range 15 = [0, 1, 2, 3, 4, 5, 6, 7, 8, 9, 10, 11, 12, 13, 14] := rfl
@[push_cast] theorem rg16 : List.range 16 = [0, 1, 2, 3, 4, 5, 6, 7, 8, 9, 10, 11, 12, 13, 14, 15] := rfl
@[push_cast] theorem rg17 : List.range 17 = [0, 1, 2, 3, 4, 5, 6, 7, 8, 9, 10, 11, 12, 13, 14, 15, 16] := rfl
@[push_cast] theorem rg18 : List.range 18 = [0, 1, 2, 3, 4, 5, 6, 7, 8, 9, 10, 11, 12, 13, 14, 15, 16, 17] := rfl
@[push_cast] theorem rg19 : List.range 19 = [0, 1, 2, 3, 4, 5, 6, 7, 8, 9, 10, 11, 12, 13, 14, 15, 16, 17, 18] := rfl
@[push_cast] theorem rg20 : List.range 20 = [0, 1, 2, 3, 4, 5, 6, 7, 8, 9, 10, 11, 12, 13, 14, 15, 16, 17, 18, 19] := rfl
@[push_cast] theorem rg21 : List.range 21 = [0, 1, 2, 3, 4, 5, 6, 7, 8, 9, 10, 11, 12, 13, 14, 15, 16, 17, 18, 19, 20] := rfl
@[push_cast] theorem rg22 : List.range 22 = [0, 1, 2, 3, 4, 5, 6, 7, 8, 9, 10, 11, 12, 13, 14, 15, 16, 17, 18, 19, 20, 21] := rfl
@[push_cast] theorem rg23 : List.range 23 = [0, 1, 2, 3, 4, 5, 6, 7, 8, 9, 10, 11, 12, 13, 14, 15, 16, 17, 18, 19, 20, 21, 22] := rfl
@[push_cast] theorem rg24 : List.range 24 = [0, 1, 2, 3, 4, 5, 6, 7, 8, 9, 10, 11, 12, 13, 14, 15, 16, 17, 18, 19, 20, 21, 22, 23] := rfl
@[push_cast] theorem rg25 : List.range 25 = [0, 1, 2, 3, 4, 5, 6, 7, 8, 9, 10, 11, 12, 13, 14, 15, 16, 17, 18, 19, 20, 21, 22, 23, 24] := rfl
@[push_cast] theorem rg26 : List.range 26 = [0, 1, 2, 3, 4, 5, 6, 7, 8, 9, 10, 11, 12, 13, 14, 15, 16, 17, 18, 19, 20, 21, 22, 23, 24, 25] := rfl
@[push_cast] theorem rg27 : List.range 27 = [0, 1, 2, 3, 4, 5, 6, 7, 8, 9, 10, 11, 12, 13, 14, 15, 16, 17, 18, 19, 20, 21, 22, 23, 24, 25, 26] := rfl
@[push_cast] theorem rg28 : List.range 28 = [0, 1, 2, 3, 4, 5, 6, 7, 8, 9, 10, 11, 12, 13, 14, 15, 16, 17, 18, 19, 20, 21, 22, 23, 24, 25, 26, 27] := rfl
@[push_cast] theorem rg29 : List.range 29 = [0, 1, 2, 3, 4, 5, 6, 7, 8, 9, 10, 11, 12, 13, 14, 15, 16, 17, 18, 19, 20, 21, 22, 23, 24, 25, 26, 27, 28] := rfl
@[push_cast] theorem rg30 : List.range 30 = [0, 1, 2, 3, 4, 5, 6, 7, 8, 9, 10, 11, 12, 13, 14, 15, 16, 17, 18, 19, 20, 21, 22, 23, 24, 25, 26, 27, 28, 29] := rfl
@[push_cast] theorem rg31 : List.range 31 = [0, 1, 2, 3, 4, 5, 6, 7, 8, 9, 10, 11, 12, 13, 14, 15, 16, 17, 18, 19, 20, 21, 22, 23, 24, 25, 26, 27, 28, 29, 30] := rfl
@[push_cast] theorem rg32 : List.range 32 = [0, 1, 2, 3, 4, 5, 6, 7, 8, 9, 10, 11, 12, 13, 14, 15, 16, 17, 18, 19, 20, 21, 22, 23, 24, 25, 26, 27, 28, 29, 30, 31] := rfl
@[push_cast] theorem cl2 : callable Try.prog 2 = true := by kernel_rfl
@[push_cast] theorem cl3 : callable Try.prog 3 = true := by kernel_rfl
@[push_cast] theorem cl4 : callable Try.prog 4 = true := by kernel_rfl
@[push_cast] theorem cl5 : callable Try.prog 5 = true := by kernel_rfl
@[push_cast] theorem cl6 : callable Try.prog 6 = true := by kernel_rfl
@[push_cast] theorem cl7 : callable Try.prog 7 = true := by kernel_rfl
@[push_cast] theorem cl8 : callable Try.prog 8 = true := by kernel_rfl
@[push_cast] theorem cl9 : callable Try.prog 9 = true := by kernel_rfl
@[push_cast] theorem cl10 : callable Try.prog 10 = true := by kernel_rfl
@[push_cast] theorem cl11 : callable Try.prog 11 = true := by kernel_rfl
@[push_cast] theorem cl12 : callable Try.prog 12 = true := by kernel_rfl
@[push_cast] theorem cl13 : callable Try.prog 13 = true := by kernel_rfl
@[push_cast] theorem cl14 : callable Try.prog 14 = true := by kernel_rfl
@[push_cast] theorem cl15 : callable Try.prog 15 = true := by kernel_rfl
@[push_cast] theorem cl16 : callable Try.prog 16 = true := by kernel_rfl
@[push_cast] theorem cl17 : callable Try.prog 17 = true := by kernel_rfl
@[push_cast] theorem cl18 : callable Try.prog 18 = true := by kernel_rfl
@[push_cast] theorem cl19 : callable Try.prog 19 = true := by kernel_rfl
@[push_cast] theorem cl20 : callable Try.prog 20 = true := by kernel_rfl
@[push_cast] theorem cl21 : callable Try.prog 21 = true := by kernel_rfl
@[push_cast] theorem cl22 : callable Try.prog 22 = true := by kernel_rfl
@[push_cast] theorem cl23 : callable Try.prog 23 = true := by kernel_rfl
@[push_cast] theorem cl24 : callable Try.prog 24 = true := by kernel_rfl
@[push_cast] theorem cl25 : callable Try.prog 25 = true := by kernel_rfl
@[push_cast] theorem cl26 : callable Try.prog 26 = true := by kernel_rfl
@[push_cast] theorem cl27 : callable Try.prog 27 = true := by kernel_rfl
@[push_cast] theorem cl28 : callable Try.prog 28 = true := by kernel_rfl
@[push_cast] theorem cl29 : callable Try.prog 29 = true := by kernel_rfl
@[push_cast] theorem cl30 : callable Try.prog 30 = true := by kernel_rfl
@[push_cast] theorem cl31 : callable Try.prog 31 = true := by kernel_rfl
@[push_cast] theorem cl32 : callable Try.prog 32 = true := by kernel_rfl
@[push_cast] theorem cl33 : callable Try.prog 33 = true := by kernel_rfl
@[push_cast] theorem cl34 : callable Try.prog 34 = true := by kernel_rfl
@[push_cast] theorem cl35 : callable Try.prog 35 = true := by kernel_rfl
@[push_cast] theorem cl36 : callable Try.prog 36 = true := by kernel_rfl
@[push_cast] theorem cl37 : callable Try.prog 37 = true := by kernel_rfl
@[push_cast] theorem cl38 : callable Try.prog 38 = true := by kernel_rfl
@[push_cast] theorem cl39 : callable Try.prog 39 = true := by kernel_rfl
@[push_cast] theorem cl40 : callable Try.prog 40 = true := by kernel_rfl
@[push_cast] theorem cl41 : callable Try.prog 41 = true := by kernel_rfl
@[push_cast] theorem cl42 : callable Try.prog 42 = true := by kernel_rfl
@[push_cast] theorem cl43 : callable Try.prog 43 = true := by kernel_rfl
@[push_cast] theorem cl44 : callable Try.prog 44 = true := by kernel_rfl
@[push_cast] theorem cl45 : callable Try.prog 45 = true := by kernel_rfl
@[push_cast] theorem cl46 : callable Try.prog 46 = true := by kernel_rfl
@[push_cast] theorem cl47 : callable Try.prog 47 = true := by kernel_rfl
@[push_cast] theorem cl48 : callable Try.prog 48 = true := by kernel_rfl
@[push_cast] theorem cl49 : callable Try.prog 49 = true := by kernel_rfl
@[push_cast] theorem cl50 : callable Try.prog 50 = true := by kernel_rfl
@[push_cast] theorem cl51 : callable Try.prog 51 = true := by kernel_rfl
@[push_cast] theorem cl52 : callable Try.prog 52 = true := by kernel_rfl
@[push_cast] theorem cl53 : callable Try.prog 53 = true := by kernel_rfl
@[push_cast] theorem cl54 : callable Try.prog 54 = true := by kernel_rfl
@[push_cast] theorem cl55 : callable Try.prog 55 = true := by kernel_rfl
@[push_cast] theorem cl56 : callable Try.prog 56 = true := by kernel_rfl
@[push_cast] theorem cl57 : callable Try.prog 57 = true := by kernel_rfl
@[push_cast] theorem cl58 : callable Try.prog 58 = true := by kernel_rfl
@[push_cast] theorem cl59 : callable Try.prog 59 = true := by kernel_rfl
@[push_cast] theorem cl60 : callable Try.prog 60 = true := by kernel_rfl
@[push_cast] theorem cl61 : callable Try.prog 61 = true := by kernel_rfl
@[push_cast] theorem cl62 : callable Try.prog 62 = true := by kernel_rfl
@[push_cast] theorem cl63 : callable Try.prog 63 = true := by kernel_rfl
@[push_cast] theorem cl64 : callable Try.prog 64 = true := by kernel_rfl
@[push_cast] theorem cl65 : callable Try.prog 65 = true := by kernel_rfl
@[push_cast] theorem cl66 : callable Try.prog 66 = true := by kernel_rfl
@[push_cast] theorem cl67 : callable Try.prog 67 = true := by kernel_rfl
@[push_cast] theorem cl68 : callable Try.prog 68 = true := by kernel_rfl
@[push_cast] theorem cl69 : callable Try.prog 69 = true := by kernel_rfl
@[push_cast] theorem cl70 : callable Try.prog 70 = true := by kernel_rfl
@[push_cast] theorem cl71 : callable Try.prog 71 = true := by kernel_rfl
@[push_cast] theorem cl72 : callable Try.prog 72 = true := by kernel_rfl
attribute [push_cast] Try.ntmps2 Try.results2 Try.ntmps3 Try.results3 Try.ntmps4 Try.results4 Try.ntmps5 Try.results5 Try.ntmps6 Try.results6 Try.ntmps7 Try.results7 Try.ntmps8 Try.results8 Try.ntmps9 Try.results9 Try.ntmps10 Try.results10 Try.ntmps11 Try.results11 Try.ntmps12 Try.results12 Try.ntmps13 Try.results13 Try.ntmps14 Try.results14 Try.ntmps15 Try.results15 Try.ntmps16 Try.results16 Try.ntmps17 Try.results17 Try.ntmps18 Try.results18 Try.ntmps19 Try.results19 Try.ntmps20 Try.results20 Try.ntmps21 Try.results21 Try.ntmps22 Try.results22 Try.ntmps23 Try.results23 Try.ntmps24 Try.results24 Try.ntmps25 Try.results25 Try.ntmps26 Try.results26 Try.ntmps27 Try.results27 Try.ntmps28 Try.results28 Try.ntmps29 Try.results29 Try.ntmps30 Try.results30 Try.ntmps31 Try.results31 Try.ntmps32 Try.results32 Try.ntmps33 Try.results33 Try.ntmps34 Try.results34 Try.ntmps35 Try.results35 Try.ntmps36 Try.results36 Try.ntmps37 Try.results37 Try.ntmps38 Try.results38 Try.ntmps39 Try.results39 Try.ntmps40 Try.results40 Try.ntmps41 Try.results41 Try.ntmps42 Try.results42 Try.ntmps43 Try.results43 Try.ntmps44 Try.results44 Try.ntmps45 Try.results45 Try.ntmps46 Try.results46 Try.ntmps47 Try.results47 Try.ntmps48 Try.results48 Try.ntmps49 Try.results49 Try.ntmps50 Try.results50 Try.ntmps51 Try.results51 Try.ntmps52 Try.results52 Try.ntmps53 Try.results53 Try.ntmps54 Try.results54 Try.ntmps55 Try.results55 Try.ntmps56 Try.results56 Try.ntmps57 Try.results57 Try.ntmps58 Try.results58 Try.ntmps59 Try.results59 Try.ntmps60 Try.results60 Try.ntmps61 Try.results61 Try.ntmps62 Try.results62 Try.ntmps63 Try.results63 Try.ntmps64 Try.results64 Try.ntmps65 Try.results65 Try.ntmps66 Try.results66 Try.ntmps67 Try.results67 Try.ntmps68 Try.results68 Try.ntmps69 Try.results69 Try.ntmps70 Try.results70 Try.ntmps71 Try.results71 Try.ntmps72 Try.results72
end Go.Proofs.Ytmcedkcehcacpaa.Facts
