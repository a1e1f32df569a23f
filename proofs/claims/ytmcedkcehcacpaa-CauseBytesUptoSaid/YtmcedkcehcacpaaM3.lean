/- Closed facts on the translation's types and functions, for the evaluation; written by a program of this claim's author. -/
import Derived.Test.YtmcedkcehcacpaaM2
import Derived.Test.YtmcedkcehcacpaaProg
import Derived.KernelRfl
namespace Go.Proofs.Ytmcedkcehcacpaa.Facts
open Go.Abs
@[push_cast] theorem tk1 : tk Try.prog 1 = .scal := by kernel_rfl
@[push_cast] theorem zc1 : zc Try.prog 1 = some [.nilFunc] := by kernel_rfl
@[push_cast] theorem nk1 : nk Try.prog 1 = .fnc := by kernel_rfl
@[push_cast] theorem cc1 : Go.Abs.concrete Try.prog 1 = true := by kernel_rfl
@[push_cast] theorem isl1 : isSlc Try.prog 1 = false := by kernel_rfl
@[push_cast] theorem ist1 : isStr Try.prog 1 = false := by kernel_rfl
@[push_cast] theorem ik1 : ikd Try.prog 1 = none := by kernel_rfl
@[push_cast] theorem tk2 : tk Try.prog 2 = .scal := by kernel_rfl
@[push_cast] theorem zc2 : zc Try.prog 2 = some [.int .i64 0] := by kernel_rfl
@[push_cast] theorem nk2 : nk Try.prog 2 = .other := by kernel_rfl
@[push_cast] theorem cc2 : Go.Abs.concrete Try.prog 2 = true := by kernel_rfl
@[push_cast] theorem isl2 : isSlc Try.prog 2 = false := by kernel_rfl
@[push_cast] theorem ist2 : isStr Try.prog 2 = false := by kernel_rfl
@[push_cast] theorem ik2 : ikd Try.prog 2 = some .i64 := by kernel_rfl
@[push_cast] theorem tk3 : tk Try.prog 3 = .scal := by kernel_rfl
@[push_cast] theorem zc3 : zc Try.prog 3 = some [.int .i64 0] := by kernel_rfl
@[push_cast] theorem nk3 : nk Try.prog 3 = .other := by kernel_rfl
@[push_cast] theorem cc3 : Go.Abs.concrete Try.prog 3 = true := by kernel_rfl
@[push_cast] theorem isl3 : isSlc Try.prog 3 = false := by kernel_rfl
@[push_cast] theorem ist3 : isStr Try.prog 3 = false := by kernel_rfl
@[push_cast] theorem ik3 : ikd Try.prog 3 = some .i64 := by kernel_rfl
@[push_cast] theorem tk4 : tk Try.prog 4 = .scal := by kernel_rfl
@[push_cast] theorem zc4 : zc Try.prog 4 = some [.bool false] := by kernel_rfl
@[push_cast] theorem nk4 : nk Try.prog 4 = .other := by kernel_rfl
@[push_cast] theorem cc4 : Go.Abs.concrete Try.prog 4 = true := by kernel_rfl
@[push_cast] theorem isl4 : isSlc Try.prog 4 = false := by kernel_rfl
@[push_cast] theorem ist4 : isStr Try.prog 4 = false := by kernel_rfl
@[push_cast] theorem ik4 : ikd Try.prog 4 = none := by kernel_rfl
@[push_cast] theorem tk5 : tk Try.prog 5 = .scal := by kernel_rfl
@[push_cast] theorem zc5 : zc Try.prog 5 = some [.int .u8 0] := by kernel_rfl
@[push_cast] theorem nk5 : nk Try.prog 5 = .other := by kernel_rfl
@[push_cast] theorem cc5 : Go.Abs.concrete Try.prog 5 = true := by kernel_rfl
@[push_cast] theorem isl5 : isSlc Try.prog 5 = false := by kernel_rfl
@[push_cast] theorem ist5 : isStr Try.prog 5 = false := by kernel_rfl
@[push_cast] theorem ik5 : ikd Try.prog 5 = some .u8 := by kernel_rfl
@[push_cast] theorem tk6 : tk Try.prog 6 = .scal := by kernel_rfl
@[push_cast] theorem zc6 : zc Try.prog 6 = some [.int .u8 0] := by kernel_rfl
@[push_cast] theorem nk6 : nk Try.prog 6 = .other := by kernel_rfl
@[push_cast] theorem cc6 : Go.Abs.concrete Try.prog 6 = true := by kernel_rfl
@[push_cast] theorem isl6 : isSlc Try.prog 6 = false := by kernel_rfl
@[push_cast] theorem ist6 : isStr Try.prog 6 = false := by kernel_rfl
@[push_cast] theorem ik6 : ikd Try.prog 6 = some .u8 := by kernel_rfl
@[push_cast] theorem tk7 : tk Try.prog 7 = .aggr 4 := by kernel_rfl
@[push_cast] theorem zc7 : zc Try.prog 7 = some [.int .i64 0, .int .i64 0, .bool false, .int .u8 0] := by kernel_rfl
@[push_cast] theorem fld7_0 : fld Try.prog 7 0 = some (0, .scal) := by kernel_rfl
@[push_cast] theorem fld7_1 : fld Try.prog 7 1 = some (1, .scal) := by kernel_rfl
@[push_cast] theorem fld7_2 : fld Try.prog 7 2 = some (2, .scal) := by kernel_rfl
@[push_cast] theorem fld7_3 : fld Try.prog 7 3 = some (3, .scal) := by kernel_rfl
@[push_cast] theorem pl7 : places Try.prog 7 = some [(0, 1), (1, 1), (2, 1), (3, 1)] := by kernel_rfl
@[push_cast] theorem nk7 : nk Try.prog 7 = .other := by kernel_rfl
@[push_cast] theorem cc7 : Go.Abs.concrete Try.prog 7 = true := by kernel_rfl
@[push_cast] theorem isl7 : isSlc Try.prog 7 = false := by kernel_rfl
@[push_cast] theorem ist7 : isStr Try.prog 7 = false := by kernel_rfl
@[push_cast] theorem ik7 : ikd Try.prog 7 = none := by kernel_rfl
@[push_cast] theorem tk8 : tk Try.prog 8 = .aggr 4 := by kernel_rfl
@[push_cast] theorem zc8 : zc Try.prog 8 = some [.int .i64 0, .int .i64 0, .bool false, .int .u8 0] := by kernel_rfl
@[push_cast] theorem fld8_0 : fld Try.prog 8 0 = some (0, .scal) := by kernel_rfl
@[push_cast] theorem fld8_1 : fld Try.prog 8 1 = some (1, .scal) := by kernel_rfl
@[push_cast] theorem fld8_2 : fld Try.prog 8 2 = some (2, .scal) := by kernel_rfl
@[push_cast] theorem fld8_3 : fld Try.prog 8 3 = some (3, .scal) := by kernel_rfl
@[push_cast] theorem pl8 : places Try.prog 8 = some [(0, 1), (1, 1), (2, 1), (3, 1)] := by kernel_rfl
@[push_cast] theorem nk8 : nk Try.prog 8 = .other := by kernel_rfl
@[push_cast] theorem cc8 : Go.Abs.concrete Try.prog 8 = true := by kernel_rfl
@[push_cast] theorem isl8 : isSlc Try.prog 8 = false := by kernel_rfl
@[push_cast] theorem ist8 : isStr Try.prog 8 = false := by kernel_rfl
@[push_cast] theorem ik8 : ikd Try.prog 8 = none := by kernel_rfl
@[push_cast] theorem tk9 : tk Try.prog 9 = .scal := by kernel_rfl
@[push_cast] theorem zc9 : zc Try.prog 9 = some [.string ⟨#[]⟩] := by kernel_rfl
@[push_cast] theorem nk9 : nk Try.prog 9 = .other := by kernel_rfl
@[push_cast] theorem cc9 : Go.Abs.concrete Try.prog 9 = true := by kernel_rfl
@[push_cast] theorem isl9 : isSlc Try.prog 9 = false := by kernel_rfl
@[push_cast] theorem ist9 : isStr Try.prog 9 = true := by kernel_rfl
@[push_cast] theorem ik9 : ikd Try.prog 9 = none := by kernel_rfl
@[push_cast] theorem tk10 : tk Try.prog 10 = .scal := by kernel_rfl
@[push_cast] theorem zc10 : zc Try.prog 10 = some [.string ⟨#[]⟩] := by kernel_rfl
@[push_cast] theorem nk10 : nk Try.prog 10 = .other := by kernel_rfl
@[push_cast] theorem cc10 : Go.Abs.concrete Try.prog 10 = true := by kernel_rfl
@[push_cast] theorem isl10 : isSlc Try.prog 10 = false := by kernel_rfl
@[push_cast] theorem ist10 : isStr Try.prog 10 = true := by kernel_rfl
@[push_cast] theorem ik10 : ikd Try.prog 10 = none := by kernel_rfl
@[push_cast] theorem tk11 : tk Try.prog 11 = .scal := by kernel_rfl
@[push_cast] theorem zc11 : zc Try.prog 11 = some [.string ⟨#[]⟩] := by kernel_rfl
@[push_cast] theorem nk11 : nk Try.prog 11 = .other := by kernel_rfl
@[push_cast] theorem cc11 : Go.Abs.concrete Try.prog 11 = true := by kernel_rfl
@[push_cast] theorem isl11 : isSlc Try.prog 11 = false := by kernel_rfl
@[push_cast] theorem ist11 : isStr Try.prog 11 = true := by kernel_rfl
@[push_cast] theorem ik11 : ikd Try.prog 11 = none := by kernel_rfl
@[push_cast] theorem tk12 : tk Try.prog 12 = .scal := by kernel_rfl
@[push_cast] theorem zc12 : zc Try.prog 12 = some [.int .u64 0] := by kernel_rfl
@[push_cast] theorem nk12 : nk Try.prog 12 = .other := by kernel_rfl
@[push_cast] theorem cc12 : Go.Abs.concrete Try.prog 12 = true := by kernel_rfl
@[push_cast] theorem isl12 : isSlc Try.prog 12 = false := by kernel_rfl
@[push_cast] theorem ist12 : isStr Try.prog 12 = false := by kernel_rfl
@[push_cast] theorem ik12 : ikd Try.prog 12 = some .u64 := by kernel_rfl
@[push_cast] theorem tk13 : tk Try.prog 13 = .aggr 2 := by kernel_rfl
@[push_cast] theorem zc13 : zc Try.prog 13 = some [.string ⟨#[]⟩, .int .u64 0] := by kernel_rfl
@[push_cast] theorem fld13_0 : fld Try.prog 13 0 = some (0, .scal) := by kernel_rfl
@[push_cast] theorem fld13_1 : fld Try.prog 13 1 = some (1, .scal) := by kernel_rfl
@[push_cast] theorem pl13 : places Try.prog 13 = some [(0, 1), (1, 1)] := by kernel_rfl
@[push_cast] theorem nk13 : nk Try.prog 13 = .other := by kernel_rfl
@[push_cast] theorem cc13 : Go.Abs.concrete Try.prog 13 = true := by kernel_rfl
@[push_cast] theorem isl13 : isSlc Try.prog 13 = false := by kernel_rfl
@[push_cast] theorem ist13 : isStr Try.prog 13 = false := by kernel_rfl
@[push_cast] theorem ik13 : ikd Try.prog 13 = none := by kernel_rfl
@[push_cast] theorem tk14 : tk Try.prog 14 = .aggr 2 := by kernel_rfl
@[push_cast] theorem zc14 : zc Try.prog 14 = some [.string ⟨#[]⟩, .int .u64 0] := by kernel_rfl
@[push_cast] theorem fld14_0 : fld Try.prog 14 0 = some (0, .scal) := by kernel_rfl
@[push_cast] theorem fld14_1 : fld Try.prog 14 1 = some (1, .scal) := by kernel_rfl
@[push_cast] theorem pl14 : places Try.prog 14 = some [(0, 1), (1, 1)] := by kernel_rfl
@[push_cast] theorem nk14 : nk Try.prog 14 = .other := by kernel_rfl
@[push_cast] theorem cc14 : Go.Abs.concrete Try.prog 14 = true := by kernel_rfl
@[push_cast] theorem isl14 : isSlc Try.prog 14 = false := by kernel_rfl
@[push_cast] theorem ist14 : isStr Try.prog 14 = false := by kernel_rfl
@[push_cast] theorem ik14 : ikd Try.prog 14 = none := by kernel_rfl
@[push_cast] theorem tk15 : tk Try.prog 15 = .scal := by kernel_rfl
@[push_cast] theorem zc15 : zc Try.prog 15 = some [.pointer none] := by kernel_rfl
@[push_cast] theorem nk15 : nk Try.prog 15 = .ptr := by kernel_rfl
@[push_cast] theorem cc15 : Go.Abs.concrete Try.prog 15 = true := by kernel_rfl
@[push_cast] theorem isl15 : isSlc Try.prog 15 = false := by kernel_rfl
@[push_cast] theorem ist15 : isStr Try.prog 15 = false := by kernel_rfl
@[push_cast] theorem ik15 : ikd Try.prog 15 = none := by kernel_rfl
@[push_cast] theorem tk16 : tk Try.prog 16 = .scal := by kernel_rfl
@[push_cast] theorem zc16 : zc Try.prog 16 = some [.pointer none] := by kernel_rfl
@[push_cast] theorem nk16 : nk Try.prog 16 = .ptr := by kernel_rfl
@[push_cast] theorem cc16 : Go.Abs.concrete Try.prog 16 = true := by kernel_rfl
@[push_cast] theorem isl16 : isSlc Try.prog 16 = false := by kernel_rfl
@[push_cast] theorem ist16 : isStr Try.prog 16 = false := by kernel_rfl
@[push_cast] theorem ik16 : ikd Try.prog 16 = none := by kernel_rfl
@[push_cast] theorem tk17 : tk Try.prog 17 = .scal := by kernel_rfl
@[push_cast] theorem zc17 : zc Try.prog 17 = some [.pointer none] := by kernel_rfl
@[push_cast] theorem nk17 : nk Try.prog 17 = .ptr := by kernel_rfl
@[push_cast] theorem cc17 : Go.Abs.concrete Try.prog 17 = true := by kernel_rfl
@[push_cast] theorem isl17 : isSlc Try.prog 17 = false := by kernel_rfl
@[push_cast] theorem ist17 : isStr Try.prog 17 = false := by kernel_rfl
@[push_cast] theorem ik17 : ikd Try.prog 17 = none := by kernel_rfl
@[push_cast] theorem tk18 : tk Try.prog 18 = .aggr 1 := by kernel_rfl
@[push_cast] theorem zc18 : zc Try.prog 18 = some [.pointer none] := by kernel_rfl
@[push_cast] theorem fld18_0 : fld Try.prog 18 0 = some (0, .scal) := by kernel_rfl
@[push_cast] theorem pl18 : places Try.prog 18 = some [(0, 1)] := by kernel_rfl
@[push_cast] theorem nk18 : nk Try.prog 18 = .other := by kernel_rfl
@[push_cast] theorem cc18 : Go.Abs.concrete Try.prog 18 = true := by kernel_rfl
@[push_cast] theorem isl18 : isSlc Try.prog 18 = false := by kernel_rfl
@[push_cast] theorem ist18 : isStr Try.prog 18 = false := by kernel_rfl
@[push_cast] theorem ik18 : ikd Try.prog 18 = none := by kernel_rfl
@[push_cast] theorem tk19 : tk Try.prog 19 = .aggr 1 := by kernel_rfl
@[push_cast] theorem zc19 : zc Try.prog 19 = some [.pointer none] := by kernel_rfl
@[push_cast] theorem fld19_0 : fld Try.prog 19 0 = some (0, .scal) := by kernel_rfl
@[push_cast] theorem pl19 : places Try.prog 19 = some [(0, 1)] := by kernel_rfl
@[push_cast] theorem nk19 : nk Try.prog 19 = .other := by kernel_rfl
@[push_cast] theorem cc19 : Go.Abs.concrete Try.prog 19 = true := by kernel_rfl
@[push_cast] theorem isl19 : isSlc Try.prog 19 = false := by kernel_rfl
@[push_cast] theorem ist19 : isStr Try.prog 19 = false := by kernel_rfl
@[push_cast] theorem ik19 : ikd Try.prog 19 = none := by kernel_rfl
@[push_cast] theorem tk20 : tk Try.prog 20 = .scal := by kernel_rfl
@[push_cast] theorem zc20 : zc Try.prog 20 = some [.nilIface] := by kernel_rfl
@[push_cast] theorem nk20 : nk Try.prog 20 = .ifc := by kernel_rfl
@[push_cast] theorem isl20 : isSlc Try.prog 20 = false := by kernel_rfl
@[push_cast] theorem ist20 : isStr Try.prog 20 = false := by kernel_rfl
@[push_cast] theorem ik20 : ikd Try.prog 20 = none := by kernel_rfl
@[push_cast] theorem tk21 : tk Try.prog 21 = .scal := by kernel_rfl
@[push_cast] theorem zc21 : zc Try.prog 21 = some [.int .i32 0] := by kernel_rfl
@[push_cast] theorem nk21 : nk Try.prog 21 = .other := by kernel_rfl
@[push_cast] theorem cc21 : Go.Abs.concrete Try.prog 21 = true := by kernel_rfl
@[push_cast] theorem isl21 : isSlc Try.prog 21 = false := by kernel_rfl
@[push_cast] theorem ist21 : isStr Try.prog 21 = false := by kernel_rfl
@[push_cast] theorem ik21 : ikd Try.prog 21 = some .i32 := by kernel_rfl
@[push_cast] theorem tk22 : tk Try.prog 22 = .scal := by kernel_rfl
@[push_cast] theorem zc22 : zc Try.prog 22 = some [.int .u16 0] := by kernel_rfl
@[push_cast] theorem nk22 : nk Try.prog 22 = .other := by kernel_rfl
@[push_cast] theorem cc22 : Go.Abs.concrete Try.prog 22 = true := by kernel_rfl
@[push_cast] theorem isl22 : isSlc Try.prog 22 = false := by kernel_rfl
@[push_cast] theorem ist22 : isStr Try.prog 22 = false := by kernel_rfl
@[push_cast] theorem ik22 : ikd Try.prog 22 = some .u16 := by kernel_rfl
@[push_cast] theorem tk23 : tk Try.prog 23 = .scal := by kernel_rfl
@[push_cast] theorem zc23 : zc Try.prog 23 = some [.int .u32 0] := by kernel_rfl
@[push_cast] theorem nk23 : nk Try.prog 23 = .other := by kernel_rfl
@[push_cast] theorem cc23 : Go.Abs.concrete Try.prog 23 = true := by kernel_rfl
@[push_cast] theorem isl23 : isSlc Try.prog 23 = false := by kernel_rfl
@[push_cast] theorem ist23 : isStr Try.prog 23 = false := by kernel_rfl
@[push_cast] theorem ik23 : ikd Try.prog 23 = some .u32 := by kernel_rfl
@[push_cast] theorem tk24 : tk Try.prog 24 = .scal := by kernel_rfl
@[push_cast] theorem zc24 : zc Try.prog 24 = some [.nilFunc] := by kernel_rfl
@[push_cast] theorem nk24 : nk Try.prog 24 = .fnc := by kernel_rfl
@[push_cast] theorem cc24 : Go.Abs.concrete Try.prog 24 = true := by kernel_rfl
@[push_cast] theorem isl24 : isSlc Try.prog 24 = false := by kernel_rfl
@[push_cast] theorem ist24 : isStr Try.prog 24 = false := by kernel_rfl
@[push_cast] theorem ik24 : ikd Try.prog 24 = none := by kernel_rfl
@[push_cast] theorem tk25 : tk Try.prog 25 = .scal := by kernel_rfl
@[push_cast] theorem zc25 : zc Try.prog 25 = some [.slice none 0 0] := by kernel_rfl
@[push_cast] theorem nk25 : nk Try.prog 25 = .slc := by kernel_rfl
@[push_cast] theorem cc25 : Go.Abs.concrete Try.prog 25 = true := by kernel_rfl
@[push_cast] theorem isl25 : isSlc Try.prog 25 = true := by kernel_rfl
@[push_cast] theorem ist25 : isStr Try.prog 25 = false := by kernel_rfl
@[push_cast] theorem ik25 : ikd Try.prog 25 = none := by kernel_rfl
@[push_cast] theorem es25 : elSz Try.prog 25 = some 1 := by kernel_rfl
@[push_cast] theorem eb25 : elB Try.prog 25 = 1 := by kernel_rfl
@[push_cast] theorem el25 : elT Try.prog 25 = some 5 := by kernel_rfl
@[push_cast] theorem by25 : isBys Try.prog 25 = true := by kernel_rfl
@[push_cast] theorem tk26 : tk Try.prog 26 = .scal := by kernel_rfl
@[push_cast] theorem zc26 : zc Try.prog 26 = some [.slice none 0 0] := by kernel_rfl
@[push_cast] theorem nk26 : nk Try.prog 26 = .slc := by kernel_rfl
@[push_cast] theorem cc26 : Go.Abs.concrete Try.prog 26 = true := by kernel_rfl
@[push_cast] theorem isl26 : isSlc Try.prog 26 = true := by kernel_rfl
@[push_cast] theorem ist26 : isStr Try.prog 26 = false := by kernel_rfl
@[push_cast] theorem ik26 : ikd Try.prog 26 = none := by kernel_rfl
@[push_cast] theorem es26 : elSz Try.prog 26 = some 3 := by kernel_rfl
@[push_cast] theorem eb26 : elB Try.prog 26 = 56 := by kernel_rfl
@[push_cast] theorem el26 : elT Try.prog 26 = some 28 := by kernel_rfl
@[push_cast] theorem by26 : isBys Try.prog 26 = false := by kernel_rfl
@[push_cast] theorem tk27 : tk Try.prog 27 = .aggr 3 := by kernel_rfl
@[push_cast] theorem zc27 : zc Try.prog 27 = some [.int .u16 0, .slice none 0 0, .slice none 0 0] := by kernel_rfl
@[push_cast] theorem fld27_0 : fld Try.prog 27 0 = some (0, .scal) := by kernel_rfl
@[push_cast] theorem fld27_1 : fld Try.prog 27 1 = some (1, .scal) := by kernel_rfl
@[push_cast] theorem fld27_2 : fld Try.prog 27 2 = some (2, .scal) := by kernel_rfl
@[push_cast] theorem pl27 : places Try.prog 27 = some [(0, 1), (1, 1), (2, 1)] := by kernel_rfl
@[push_cast] theorem nk27 : nk Try.prog 27 = .other := by kernel_rfl
@[push_cast] theorem cc27 : Go.Abs.concrete Try.prog 27 = true := by kernel_rfl
@[push_cast] theorem isl27 : isSlc Try.prog 27 = false := by kernel_rfl
@[push_cast] theorem ist27 : isStr Try.prog 27 = false := by kernel_rfl
@[push_cast] theorem ik27 : ikd Try.prog 27 = none := by kernel_rfl
@[push_cast] theorem tk28 : tk Try.prog 28 = .aggr 3 := by kernel_rfl
@[push_cast] theorem zc28 : zc Try.prog 28 = some [.int .u16 0, .slice none 0 0, .slice none 0 0] := by kernel_rfl
@[push_cast] theorem fld28_0 : fld Try.prog 28 0 = some (0, .scal) := by kernel_rfl
@[push_cast] theorem fld28_1 : fld Try.prog 28 1 = some (1, .scal) := by kernel_rfl
@[push_cast] theorem fld28_2 : fld Try.prog 28 2 = some (2, .scal) := by kernel_rfl
@[push_cast] theorem pl28 : places Try.prog 28 = some [(0, 1), (1, 1), (2, 1)] := by kernel_rfl
@[push_cast] theorem nk28 : nk Try.prog 28 = .other := by kernel_rfl
@[push_cast] theorem cc28 : Go.Abs.concrete Try.prog 28 = true := by kernel_rfl
@[push_cast] theorem isl28 : isSlc Try.prog 28 = false := by kernel_rfl
@[push_cast] theorem ist28 : isStr Try.prog 28 = false := by kernel_rfl
@[push_cast] theorem ik28 : ikd Try.prog 28 = none := by kernel_rfl
@[push_cast] theorem tk30 : tk Try.prog 30 = .scal := by kernel_rfl
@[push_cast] theorem zc30 : zc Try.prog 30 = some [.nilFunc] := by kernel_rfl
@[push_cast] theorem nk30 : nk Try.prog 30 = .fnc := by kernel_rfl
@[push_cast] theorem cc30 : Go.Abs.concrete Try.prog 30 = true := by kernel_rfl
@[push_cast] theorem isl30 : isSlc Try.prog 30 = false := by kernel_rfl
@[push_cast] theorem ist30 : isStr Try.prog 30 = false := by kernel_rfl
@[push_cast] theorem ik30 : ikd Try.prog 30 = none := by kernel_rfl
@[push_cast] theorem tk31 : tk Try.prog 31 = .scal := by kernel_rfl
@[push_cast] theorem zc31 : zc Try.prog 31 = some [.nilFunc] := by kernel_rfl
@[push_cast] theorem nk31 : nk Try.prog 31 = .fnc := by kernel_rfl
@[push_cast] theorem cc31 : Go.Abs.concrete Try.prog 31 = true := by kernel_rfl
@[push_cast] theorem isl31 : isSlc Try.prog 31 = false := by kernel_rfl
@[push_cast] theorem ist31 : isStr Try.prog 31 = false := by kernel_rfl
@[push_cast] theorem ik31 : ikd Try.prog 31 = none := by kernel_rfl
@[push_cast] theorem tk32 : tk Try.prog 32 = .scal := by kernel_rfl
@[push_cast] theorem zc32 : zc Try.prog 32 = some [.nilFunc] := by kernel_rfl
@[push_cast] theorem nk32 : nk Try.prog 32 = .fnc := by kernel_rfl
@[push_cast] theorem cc32 : Go.Abs.concrete Try.prog 32 = true := by kernel_rfl
@[push_cast] theorem isl32 : isSlc Try.prog 32 = false := by kernel_rfl
@[push_cast] theorem ist32 : isStr Try.prog 32 = false := by kernel_rfl
@[push_cast] theorem ik32 : ikd Try.prog 32 = none := by kernel_rfl
@[push_cast] theorem tk34 : tk Try.prog 34 = .scal := by kernel_rfl
@[push_cast] theorem zc34 : zc Try.prog 34 = some [.nilFunc] := by kernel_rfl
@[push_cast] theorem nk34 : nk Try.prog 34 = .fnc := by kernel_rfl
@[push_cast] theorem cc34 : Go.Abs.concrete Try.prog 34 = true := by kernel_rfl
@[push_cast] theorem isl34 : isSlc Try.prog 34 = false := by kernel_rfl
@[push_cast] theorem ist34 : isStr Try.prog 34 = false := by kernel_rfl
@[push_cast] theorem ik34 : ikd Try.prog 34 = none := by kernel_rfl
@[push_cast] theorem tk35 : tk Try.prog 35 = .scal := by kernel_rfl
@[push_cast] theorem zc35 : zc Try.prog 35 = some [.nilFunc] := by kernel_rfl
@[push_cast] theorem nk35 : nk Try.prog 35 = .fnc := by kernel_rfl
@[push_cast] theorem cc35 : Go.Abs.concrete Try.prog 35 = true := by kernel_rfl
@[push_cast] theorem isl35 : isSlc Try.prog 35 = false := by kernel_rfl
@[push_cast] theorem ist35 : isStr Try.prog 35 = false := by kernel_rfl
@[push_cast] theorem ik35 : ikd Try.prog 35 = none := by kernel_rfl
@[push_cast] theorem tk36 : tk Try.prog 36 = .scal := by kernel_rfl
@[push_cast] theorem zc36 : zc Try.prog 36 = some [.nilFunc] := by kernel_rfl
@[push_cast] theorem nk36 : nk Try.prog 36 = .fnc := by kernel_rfl
@[push_cast] theorem cc36 : Go.Abs.concrete Try.prog 36 = true := by kernel_rfl
@[push_cast] theorem isl36 : isSlc Try.prog 36 = false := by kernel_rfl
@[push_cast] theorem ist36 : isStr Try.prog 36 = false := by kernel_rfl
@[push_cast] theorem ik36 : ikd Try.prog 36 = none := by kernel_rfl
@[push_cast] theorem tk37 : tk Try.prog 37 = .scal := by kernel_rfl
@[push_cast] theorem zc37 : zc Try.prog 37 = some [.slice none 0 0] := by kernel_rfl
@[push_cast] theorem nk37 : nk Try.prog 37 = .slc := by kernel_rfl
@[push_cast] theorem cc37 : Go.Abs.concrete Try.prog 37 = true := by kernel_rfl
@[push_cast] theorem isl37 : isSlc Try.prog 37 = true := by kernel_rfl
@[push_cast] theorem ist37 : isStr Try.prog 37 = false := by kernel_rfl
@[push_cast] theorem ik37 : ikd Try.prog 37 = none := by kernel_rfl
@[push_cast] theorem es37 : elSz Try.prog 37 = some 1 := by kernel_rfl
@[push_cast] theorem eb37 : elB Try.prog 37 = 2 := by kernel_rfl
@[push_cast] theorem el37 : elT Try.prog 37 = some 22 := by kernel_rfl
@[push_cast] theorem by37 : isBys Try.prog 37 = false := by kernel_rfl
@[push_cast] theorem tk39 : tk Try.prog 39 = .scal := by kernel_rfl
@[push_cast] theorem zc39 : zc Try.prog 39 = some [.nilFunc] := by kernel_rfl
@[push_cast] theorem nk39 : nk Try.prog 39 = .fnc := by kernel_rfl
@[push_cast] theorem cc39 : Go.Abs.concrete Try.prog 39 = true := by kernel_rfl
@[push_cast] theorem isl39 : isSlc Try.prog 39 = false := by kernel_rfl
@[push_cast] theorem ist39 : isStr Try.prog 39 = false := by kernel_rfl
@[push_cast] theorem ik39 : ikd Try.prog 39 = none := by kernel_rfl
@[push_cast] theorem tk40 : tk Try.prog 40 = .scal := by kernel_rfl
@[push_cast] theorem zc40 : zc Try.prog 40 = some [.nilFunc] := by kernel_rfl
@[push_cast] theorem nk40 : nk Try.prog 40 = .fnc := by kernel_rfl
@[push_cast] theorem cc40 : Go.Abs.concrete Try.prog 40 = true := by kernel_rfl
@[push_cast] theorem isl40 : isSlc Try.prog 40 = false := by kernel_rfl
@[push_cast] theorem ist40 : isStr Try.prog 40 = false := by kernel_rfl
@[push_cast] theorem ik40 : ikd Try.prog 40 = none := by kernel_rfl
@[push_cast] theorem tk41 : tk Try.prog 41 = .scal := by kernel_rfl
@[push_cast] theorem zc41 : zc Try.prog 41 = some [.nilFunc] := by kernel_rfl
@[push_cast] theorem nk41 : nk Try.prog 41 = .fnc := by kernel_rfl
@[push_cast] theorem cc41 : Go.Abs.concrete Try.prog 41 = true := by kernel_rfl
@[push_cast] theorem isl41 : isSlc Try.prog 41 = false := by kernel_rfl
@[push_cast] theorem ist41 : isStr Try.prog 41 = false := by kernel_rfl
@[push_cast] theorem ik41 : ikd Try.prog 41 = none := by kernel_rfl
@[push_cast] theorem tk42 : tk Try.prog 42 = .scal := by kernel_rfl
@[push_cast] theorem zc42 : zc Try.prog 42 = some [.nilFunc] := by kernel_rfl
@[push_cast] theorem nk42 : nk Try.prog 42 = .fnc := by kernel_rfl
@[push_cast] theorem cc42 : Go.Abs.concrete Try.prog 42 = true := by kernel_rfl
@[push_cast] theorem isl42 : isSlc Try.prog 42 = false := by kernel_rfl
@[push_cast] theorem ist42 : isStr Try.prog 42 = false := by kernel_rfl
@[push_cast] theorem ik42 : ikd Try.prog 42 = none := by kernel_rfl
@[push_cast] theorem tk43 : tk Try.prog 43 = .scal := by kernel_rfl
@[push_cast] theorem zc43 : zc Try.prog 43 = some [.nilFunc] := by kernel_rfl
@[push_cast] theorem nk43 : nk Try.prog 43 = .fnc := by kernel_rfl
@[push_cast] theorem cc43 : Go.Abs.concrete Try.prog 43 = true := by kernel_rfl
@[push_cast] theorem isl43 : isSlc Try.prog 43 = false := by kernel_rfl
@[push_cast] theorem ist43 : isStr Try.prog 43 = false := by kernel_rfl
@[push_cast] theorem ik43 : ikd Try.prog 43 = none := by kernel_rfl
@[push_cast] theorem tk44 : tk Try.prog 44 = .scal := by kernel_rfl
@[push_cast] theorem zc44 : zc Try.prog 44 = some [.nilFunc] := by kernel_rfl
@[push_cast] theorem nk44 : nk Try.prog 44 = .fnc := by kernel_rfl
@[push_cast] theorem cc44 : Go.Abs.concrete Try.prog 44 = true := by kernel_rfl
@[push_cast] theorem isl44 : isSlc Try.prog 44 = false := by kernel_rfl
@[push_cast] theorem ist44 : isStr Try.prog 44 = false := by kernel_rfl
@[push_cast] theorem ik44 : ikd Try.prog 44 = none := by kernel_rfl
@[push_cast] theorem tk45 : tk Try.prog 45 = .scal := by kernel_rfl
@[push_cast] theorem zc45 : zc Try.prog 45 = some [.nilFunc] := by kernel_rfl
@[push_cast] theorem nk45 : nk Try.prog 45 = .fnc := by kernel_rfl
@[push_cast] theorem cc45 : Go.Abs.concrete Try.prog 45 = true := by kernel_rfl
@[push_cast] theorem isl45 : isSlc Try.prog 45 = false := by kernel_rfl
@[push_cast] theorem ist45 : isStr Try.prog 45 = false := by kernel_rfl
@[push_cast] theorem ik45 : ikd Try.prog 45 = none := by kernel_rfl
@[push_cast] theorem tk46 : tk Try.prog 46 = .scal := by kernel_rfl
@[push_cast] theorem zc46 : zc Try.prog 46 = some [.nilFunc] := by kernel_rfl
@[push_cast] theorem nk46 : nk Try.prog 46 = .fnc := by kernel_rfl
@[push_cast] theorem cc46 : Go.Abs.concrete Try.prog 46 = true := by kernel_rfl
@[push_cast] theorem isl46 : isSlc Try.prog 46 = false := by kernel_rfl
@[push_cast] theorem ist46 : isStr Try.prog 46 = false := by kernel_rfl
@[push_cast] theorem ik46 : ikd Try.prog 46 = none := by kernel_rfl
@[push_cast] theorem tk47 : tk Try.prog 47 = .scal := by kernel_rfl
@[push_cast] theorem zc47 : zc Try.prog 47 = some [.nilFunc] := by kernel_rfl
@[push_cast] theorem nk47 : nk Try.prog 47 = .fnc := by kernel_rfl
@[push_cast] theorem cc47 : Go.Abs.concrete Try.prog 47 = true := by kernel_rfl
@[push_cast] theorem isl47 : isSlc Try.prog 47 = false := by kernel_rfl
@[push_cast] theorem ist47 : isStr Try.prog 47 = false := by kernel_rfl
@[push_cast] theorem ik47 : ikd Try.prog 47 = none := by kernel_rfl
@[push_cast] theorem tk48 : tk Try.prog 48 = .scal := by kernel_rfl
@[push_cast] theorem zc48 : zc Try.prog 48 = some [.nilFunc] := by kernel_rfl
@[push_cast] theorem nk48 : nk Try.prog 48 = .fnc := by kernel_rfl
@[push_cast] theorem cc48 : Go.Abs.concrete Try.prog 48 = true := by kernel_rfl
@[push_cast] theorem isl48 : isSlc Try.prog 48 = false := by kernel_rfl
@[push_cast] theorem ist48 : isStr Try.prog 48 = false := by kernel_rfl
@[push_cast] theorem ik48 : ikd Try.prog 48 = none := by kernel_rfl
@[push_cast] theorem tk49 : tk Try.prog 49 = .scal := by kernel_rfl
@[push_cast] theorem zc49 : zc Try.prog 49 = some [.nilFunc] := by kernel_rfl
@[push_cast] theorem nk49 : nk Try.prog 49 = .fnc := by kernel_rfl
@[push_cast] theorem cc49 : Go.Abs.concrete Try.prog 49 = true := by kernel_rfl
@[push_cast] theorem isl49 : isSlc Try.prog 49 = false := by kernel_rfl
@[push_cast] theorem ist49 : isStr Try.prog 49 = false := by kernel_rfl
@[push_cast] theorem ik49 : ikd Try.prog 49 = none := by kernel_rfl
@[push_cast] theorem tk50 : tk Try.prog 50 = .scal := by kernel_rfl
@[push_cast] theorem zc50 : zc Try.prog 50 = some [.nilFunc] := by kernel_rfl
@[push_cast] theorem nk50 : nk Try.prog 50 = .fnc := by kernel_rfl
@[push_cast] theorem cc50 : Go.Abs.concrete Try.prog 50 = true := by kernel_rfl
@[push_cast] theorem isl50 : isSlc Try.prog 50 = false := by kernel_rfl
@[push_cast] theorem ist50 : isStr Try.prog 50 = false := by kernel_rfl
@[push_cast] theorem ik50 : ikd Try.prog 50 = none := by kernel_rfl
@[push_cast] theorem tk51 : tk Try.prog 51 = .scal := by kernel_rfl
@[push_cast] theorem zc51 : zc Try.prog 51 = some [.nilFunc] := by kernel_rfl
@[push_cast] theorem nk51 : nk Try.prog 51 = .fnc := by kernel_rfl
@[push_cast] theorem cc51 : Go.Abs.concrete Try.prog 51 = true := by kernel_rfl
@[push_cast] theorem isl51 : isSlc Try.prog 51 = false := by kernel_rfl
@[push_cast] theorem ist51 : isStr Try.prog 51 = false := by kernel_rfl
@[push_cast] theorem ik51 : ikd Try.prog 51 = none := by kernel_rfl
@[push_cast] theorem tk52 : tk Try.prog 52 = .scal := by kernel_rfl
@[push_cast] theorem zc52 : zc Try.prog 52 = some [.nilFunc] := by kernel_rfl
@[push_cast] theorem nk52 : nk Try.prog 52 = .fnc := by kernel_rfl
@[push_cast] theorem cc52 : Go.Abs.concrete Try.prog 52 = true := by kernel_rfl
@[push_cast] theorem isl52 : isSlc Try.prog 52 = false := by kernel_rfl
@[push_cast] theorem ist52 : isStr Try.prog 52 = false := by kernel_rfl
@[push_cast] theorem ik52 : ikd Try.prog 52 = none := by kernel_rfl
@[push_cast] theorem tk53 : tk Try.prog 53 = .scal := by kernel_rfl
@[push_cast] theorem zc53 : zc Try.prog 53 = some [.nilFunc] := by kernel_rfl
@[push_cast] theorem nk53 : nk Try.prog 53 = .fnc := by kernel_rfl
@[push_cast] theorem cc53 : Go.Abs.concrete Try.prog 53 = true := by kernel_rfl
@[push_cast] theorem isl53 : isSlc Try.prog 53 = false := by kernel_rfl
@[push_cast] theorem ist53 : isStr Try.prog 53 = false := by kernel_rfl
@[push_cast] theorem ik53 : ikd Try.prog 53 = none := by kernel_rfl
@[push_cast] theorem tk54 : tk Try.prog 54 = .scal := by kernel_rfl
@[push_cast] theorem zc54 : zc Try.prog 54 = some [.int .u64 0] := by kernel_rfl
@[push_cast] theorem nk54 : nk Try.prog 54 = .other := by kernel_rfl
@[push_cast] theorem cc54 : Go.Abs.concrete Try.prog 54 = true := by kernel_rfl
@[push_cast] theorem isl54 : isSlc Try.prog 54 = false := by kernel_rfl
@[push_cast] theorem ist54 : isStr Try.prog 54 = false := by kernel_rfl
@[push_cast] theorem ik54 : ikd Try.prog 54 = some .u64 := by kernel_rfl
@[push_cast] theorem tk55 : tk Try.prog 55 = .scal := by kernel_rfl
@[push_cast] theorem zc55 : zc Try.prog 55 = some [.nilFunc] := by kernel_rfl
@[push_cast] theorem nk55 : nk Try.prog 55 = .fnc := by kernel_rfl
@[push_cast] theorem cc55 : Go.Abs.concrete Try.prog 55 = true := by kernel_rfl
@[push_cast] theorem isl55 : isSlc Try.prog 55 = false := by kernel_rfl
@[push_cast] theorem ist55 : isStr Try.prog 55 = false := by kernel_rfl
@[push_cast] theorem ik55 : ikd Try.prog 55 = none := by kernel_rfl
@[push_cast] theorem tk56 : tk Try.prog 56 = .scal := by kernel_rfl
@[push_cast] theorem zc56 : zc Try.prog 56 = some [.slice none 0 0] := by kernel_rfl
@[push_cast] theorem nk56 : nk Try.prog 56 = .slc := by kernel_rfl
@[push_cast] theorem cc56 : Go.Abs.concrete Try.prog 56 = true := by kernel_rfl
@[push_cast] theorem isl56 : isSlc Try.prog 56 = true := by kernel_rfl
@[push_cast] theorem ist56 : isStr Try.prog 56 = false := by kernel_rfl
@[push_cast] theorem ik56 : ikd Try.prog 56 = none := by kernel_rfl
@[push_cast] theorem es56 : elSz Try.prog 56 = some 1 := by kernel_rfl
@[push_cast] theorem eb56 : elB Try.prog 56 = 4 := by kernel_rfl
@[push_cast] theorem el56 : elT Try.prog 56 = some 23 := by kernel_rfl
@[push_cast] theorem by56 : isBys Try.prog 56 = false := by kernel_rfl
@[push_cast] theorem tk57 : tk Try.prog 57 = .scal := by kernel_rfl
@[push_cast] theorem zc57 : zc Try.prog 57 = some [.nilFunc] := by kernel_rfl
@[push_cast] theorem nk57 : nk Try.prog 57 = .fnc := by kernel_rfl
@[push_cast] theorem cc57 : Go.Abs.concrete Try.prog 57 = true := by kernel_rfl
@[push_cast] theorem isl57 : isSlc Try.prog 57 = false := by kernel_rfl
@[push_cast] theorem ist57 : isStr Try.prog 57 = false := by kernel_rfl
@[push_cast] theorem ik57 : ikd Try.prog 57 = none := by kernel_rfl
@[push_cast] theorem tk58 : tk Try.prog 58 = .scal := by kernel_rfl
@[push_cast] theorem zc58 : zc Try.prog 58 = some [.nilFunc] := by kernel_rfl
@[push_cast] theorem nk58 : nk Try.prog 58 = .fnc := by kernel_rfl
@[push_cast] theorem cc58 : Go.Abs.concrete Try.prog 58 = true := by kernel_rfl
@[push_cast] theorem isl58 : isSlc Try.prog 58 = false := by kernel_rfl
@[push_cast] theorem ist58 : isStr Try.prog 58 = false := by kernel_rfl
@[push_cast] theorem ik58 : ikd Try.prog 58 = none := by kernel_rfl
@[push_cast] theorem tk59 : tk Try.prog 59 = .scal := by kernel_rfl
@[push_cast] theorem zc59 : zc Try.prog 59 = some [.nilFunc] := by kernel_rfl
@[push_cast] theorem nk59 : nk Try.prog 59 = .fnc := by kernel_rfl
@[push_cast] theorem cc59 : Go.Abs.concrete Try.prog 59 = true := by kernel_rfl
@[push_cast] theorem isl59 : isSlc Try.prog 59 = false := by kernel_rfl
@[push_cast] theorem ist59 : isStr Try.prog 59 = false := by kernel_rfl
@[push_cast] theorem ik59 : ikd Try.prog 59 = none := by kernel_rfl
@[push_cast] theorem tk60 : tk Try.prog 60 = .aggr 7 := by kernel_rfl
@[push_cast] theorem zc60 : zc Try.prog 60 = some [.int .i64 0, .int .u16 0, .string ⟨#[]⟩, .int .i64 0, .int .i64 0, .int .i64 0, .int .i64 0] := by kernel_rfl
@[push_cast] theorem fld60_0 : fld Try.prog 60 0 = some (0, .scal) := by kernel_rfl
@[push_cast] theorem fld60_1 : fld Try.prog 60 1 = some (1, .scal) := by kernel_rfl
@[push_cast] theorem fld60_2 : fld Try.prog 60 2 = some (2, .scal) := by kernel_rfl
@[push_cast] theorem fld60_3 : fld Try.prog 60 3 = some (3, .scal) := by kernel_rfl
@[push_cast] theorem fld60_4 : fld Try.prog 60 4 = some (4, .scal) := by kernel_rfl
@[push_cast] theorem fld60_5 : fld Try.prog 60 5 = some (5, .scal) := by kernel_rfl
@[push_cast] theorem fld60_6 : fld Try.prog 60 6 = some (6, .scal) := by kernel_rfl
@[push_cast] theorem pl60 : places Try.prog 60 = some [(0, 1), (1, 1), (2, 1), (3, 1), (4, 1), (5, 1), (6, 1)] := by kernel_rfl
@[push_cast] theorem nk60 : nk Try.prog 60 = .other := by kernel_rfl
@[push_cast] theorem cc60 : Go.Abs.concrete Try.prog 60 = true := by kernel_rfl
@[push_cast] theorem isl60 : isSlc Try.prog 60 = false := by kernel_rfl
@[push_cast] theorem ist60 : isStr Try.prog 60 = false := by kernel_rfl
@[push_cast] theorem ik60 : ikd Try.prog 60 = none := by kernel_rfl
@[push_cast] theorem tk61 : tk Try.prog 61 = .aggr 7 := by kernel_rfl
@[push_cast] theorem zc61 : zc Try.prog 61 = some [.int .i64 0, .int .u16 0, .string ⟨#[]⟩, .int .i64 0, .int .i64 0, .int .i64 0, .int .i64 0] := by kernel_rfl
@[push_cast] theorem fld61_0 : fld Try.prog 61 0 = some (0, .scal) := by kernel_rfl
@[push_cast] theorem fld61_1 : fld Try.prog 61 1 = some (1, .scal) := by kernel_rfl
@[push_cast] theorem fld61_2 : fld Try.prog 61 2 = some (2, .scal) := by kernel_rfl
@[push_cast] theorem fld61_3 : fld Try.prog 61 3 = some (3, .scal) := by kernel_rfl
@[push_cast] theorem fld61_4 : fld Try.prog 61 4 = some (4, .scal) := by kernel_rfl
@[push_cast] theorem fld61_5 : fld Try.prog 61 5 = some (5, .scal) := by kernel_rfl
@[push_cast] theorem fld61_6 : fld Try.prog 61 6 = some (6, .scal) := by kernel_rfl
@[push_cast] theorem pl61 : places Try.prog 61 = some [(0, 1), (1, 1), (2, 1), (3, 1), (4, 1), (5, 1), (6, 1)] := by kernel_rfl
@[push_cast] theorem nk61 : nk Try.prog 61 = .other := by kernel_rfl
@[push_cast] theorem cc61 : Go.Abs.concrete Try.prog 61 = true := by kernel_rfl
@[push_cast] theorem isl61 : isSlc Try.prog 61 = false := by kernel_rfl
@[push_cast] theorem ist61 : isStr Try.prog 61 = false := by kernel_rfl
@[push_cast] theorem ik61 : ikd Try.prog 61 = none := by kernel_rfl
@[push_cast] theorem tk62 : tk Try.prog 62 = .scal := by kernel_rfl
@[push_cast] theorem zc62 : zc Try.prog 62 = some [.nilFunc] := by kernel_rfl
@[push_cast] theorem nk62 : nk Try.prog 62 = .fnc := by kernel_rfl
@[push_cast] theorem cc62 : Go.Abs.concrete Try.prog 62 = true := by kernel_rfl
@[push_cast] theorem isl62 : isSlc Try.prog 62 = false := by kernel_rfl
@[push_cast] theorem ist62 : isStr Try.prog 62 = false := by kernel_rfl
@[push_cast] theorem ik62 : ikd Try.prog 62 = none := by kernel_rfl
@[push_cast] theorem tk63 : tk Try.prog 63 = .scal := by kernel_rfl
@[push_cast] theorem zc63 : zc Try.prog 63 = some [.nilFunc] := by kernel_rfl
@[push_cast] theorem nk63 : nk Try.prog 63 = .fnc := by kernel_rfl
@[push_cast] theorem cc63 : Go.Abs.concrete Try.prog 63 = true := by kernel_rfl
@[push_cast] theorem isl63 : isSlc Try.prog 63 = false := by kernel_rfl
@[push_cast] theorem ist63 : isStr Try.prog 63 = false := by kernel_rfl
@[push_cast] theorem ik63 : ikd Try.prog 63 = none := by kernel_rfl
@[push_cast] theorem tk64 : tk Try.prog 64 = .scal := by kernel_rfl
@[push_cast] theorem zc64 : zc Try.prog 64 = some [.nilFunc] := by kernel_rfl
@[push_cast] theorem nk64 : nk Try.prog 64 = .fnc := by kernel_rfl
@[push_cast] theorem cc64 : Go.Abs.concrete Try.prog 64 = true := by kernel_rfl
@[push_cast] theorem isl64 : isSlc Try.prog 64 = false := by kernel_rfl
@[push_cast] theorem ist64 : isStr Try.prog 64 = false := by kernel_rfl
@[push_cast] theorem ik64 : ikd Try.prog 64 = none := by kernel_rfl
@[push_cast] theorem tk65 : tk Try.prog 65 = .scal := by kernel_rfl
@[push_cast] theorem zc65 : zc Try.prog 65 = some [.nilFunc] := by kernel_rfl
@[push_cast] theorem nk65 : nk Try.prog 65 = .fnc := by kernel_rfl
@[push_cast] theorem cc65 : Go.Abs.concrete Try.prog 65 = true := by kernel_rfl
@[push_cast] theorem isl65 : isSlc Try.prog 65 = false := by kernel_rfl
@[push_cast] theorem ist65 : isStr Try.prog 65 = false := by kernel_rfl
@[push_cast] theorem ik65 : ikd Try.prog 65 = none := by kernel_rfl
@[push_cast] theorem tk66 : tk Try.prog 66 = .scal := by kernel_rfl
@[push_cast] theorem zc66 : zc Try.prog 66 = some [.nilFunc] := by kernel_rfl
@[push_cast] theorem nk66 : nk Try.prog 66 = .fnc := by kernel_rfl
@[push_cast] theorem cc66 : Go.Abs.concrete Try.prog 66 = true := by kernel_rfl
@[push_cast] theorem isl66 : isSlc Try.prog 66 = false := by kernel_rfl
@[push_cast] theorem ist66 : isStr Try.prog 66 = false := by kernel_rfl
@[push_cast] theorem ik66 : ikd Try.prog 66 = none := by kernel_rfl
@[push_cast] theorem tk67 : tk Try.prog 67 = .scal := by kernel_rfl
@[push_cast] theorem zc67 : zc Try.prog 67 = some [.nilFunc] := by kernel_rfl
@[push_cast] theorem nk67 : nk Try.prog 67 = .fnc := by kernel_rfl
@[push_cast] theorem cc67 : Go.Abs.concrete Try.prog 67 = true := by kernel_rfl
@[push_cast] theorem isl67 : isSlc Try.prog 67 = false := by kernel_rfl
@[push_cast] theorem ist67 : isStr Try.prog 67 = false := by kernel_rfl
@[push_cast] theorem ik67 : ikd Try.prog 67 = none := by kernel_rfl
@[push_cast] theorem tk68 : tk Try.prog 68 = .scal := by kernel_rfl
@[push_cast] theorem zc68 : zc Try.prog 68 = some [.nilIface] := by kernel_rfl
@[push_cast] theorem nk68 : nk Try.prog 68 = .ifc := by kernel_rfl
@[push_cast] theorem isl68 : isSlc Try.prog 68 = false := by kernel_rfl
@[push_cast] theorem ist68 : isStr Try.prog 68 = false := by kernel_rfl
@[push_cast] theorem ik68 : ikd Try.prog 68 = none := by kernel_rfl
@[push_cast] theorem tk69 : tk Try.prog 69 = .scal := by kernel_rfl
@[push_cast] theorem zc69 : zc Try.prog 69 = some [.nilIface] := by kernel_rfl
@[push_cast] theorem nk69 : nk Try.prog 69 = .ifc := by kernel_rfl
@[push_cast] theorem isl69 : isSlc Try.prog 69 = false := by kernel_rfl
@[push_cast] theorem ist69 : isStr Try.prog 69 = false := by kernel_rfl
@[push_cast] theorem ik69 : ikd Try.prog 69 = none := by kernel_rfl
@[push_cast] theorem tk70 : tk Try.prog 70 = .scal := by kernel_rfl
@[push_cast] theorem zc70 : zc Try.prog 70 = some [.nilFunc] := by kernel_rfl
@[push_cast] theorem nk70 : nk Try.prog 70 = .fnc := by kernel_rfl
@[push_cast] theorem cc70 : Go.Abs.concrete Try.prog 70 = true := by kernel_rfl
@[push_cast] theorem isl70 : isSlc Try.prog 70 = false := by kernel_rfl
@[push_cast] theorem ist70 : isStr Try.prog 70 = false := by kernel_rfl
@[push_cast] theorem ik70 : ikd Try.prog 70 = none := by kernel_rfl
@[push_cast] theorem tk71 : tk Try.prog 71 = .scal := by kernel_rfl
@[push_cast] theorem zc71 : zc Try.prog 71 = some [.nilFunc] := by kernel_rfl
@[push_cast] theorem nk71 : nk Try.prog 71 = .fnc := by kernel_rfl
@[push_cast] theorem cc71 : Go.Abs.concrete Try.prog 71 = true := by kernel_rfl
@[push_cast] theorem isl71 : isSlc Try.prog 71 = false := by kernel_rfl
@[push_cast] theorem ist71 : isStr Try.prog 71 = false := by kernel_rfl
@[push_cast] theorem ik71 : ikd Try.prog 71 = none := by kernel_rfl
@[push_cast] theorem tk72 : tk Try.prog 72 = .scal := by kernel_rfl
@[push_cast] theorem zc72 : zc Try.prog 72 = some [.nilFunc] := by kernel_rfl
@[push_cast] theorem nk72 : nk Try.prog 72 = .fnc := by kernel_rfl
@[push_cast] theorem cc72 : Go.Abs.concrete Try.prog 72 = true := by kernel_rfl
@[push_cast] theorem isl72 : isSlc Try.prog 72 = false := by kernel_rfl
@[push_cast] theorem ist72 : isStr Try.prog 72 = false := by kernel_rfl
@[push_cast] theorem ik72 : ikd Try.prog 72 = none := by kernel_rfl
@[push_cast] theorem tk73 : tk Try.prog 73 = .scal := by kernel_rfl
@[push_cast] theorem zc73 : zc Try.prog 73 = some [.nilFunc] := by kernel_rfl
@[push_cast] theorem nk73 : nk Try.prog 73 = .fnc := by kernel_rfl
@[push_cast] theorem cc73 : Go.Abs.concrete Try.prog 73 = true := by kernel_rfl
@[push_cast] theorem isl73 : isSlc Try.prog 73 = false := by kernel_rfl
@[push_cast] theorem ist73 : isStr Try.prog 73 = false := by kernel_rfl
@[push_cast] theorem ik73 : ikd Try.prog 73 = none := by kernel_rfl
@[push_cast] theorem tk74 : tk Try.prog 74 = .scal := by kernel_rfl
@[push_cast] theorem zc74 : zc Try.prog 74 = some [.nilFunc] := by kernel_rfl
@[push_cast] theorem nk74 : nk Try.prog 74 = .fnc := by kernel_rfl
@[push_cast] theorem cc74 : Go.Abs.concrete Try.prog 74 = true := by kernel_rfl
@[push_cast] theorem isl74 : isSlc Try.prog 74 = false := by kernel_rfl
@[push_cast] theorem ist74 : isStr Try.prog 74 = false := by kernel_rfl
@[push_cast] theorem ik74 : ikd Try.prog 74 = none := by kernel_rfl
@[push_cast] theorem tk75 : tk Try.prog 75 = .scal := by kernel_rfl
@[push_cast] theorem zc75 : zc Try.prog 75 = some [.nilFunc] := by kernel_rfl
@[push_cast] theorem nk75 : nk Try.prog 75 = .fnc := by kernel_rfl
@[push_cast] theorem cc75 : Go.Abs.concrete Try.prog 75 = true := by kernel_rfl
@[push_cast] theorem isl75 : isSlc Try.prog 75 = false := by kernel_rfl
@[push_cast] theorem ist75 : isStr Try.prog 75 = false := by kernel_rfl
@[push_cast] theorem ik75 : ikd Try.prog 75 = none := by kernel_rfl
@[push_cast] theorem tk76 : tk Try.prog 76 = .scal := by kernel_rfl
@[push_cast] theorem zc76 : zc Try.prog 76 = some [.nilFunc] := by kernel_rfl
@[push_cast] theorem nk76 : nk Try.prog 76 = .fnc := by kernel_rfl
@[push_cast] theorem cc76 : Go.Abs.concrete Try.prog 76 = true := by kernel_rfl
@[push_cast] theorem isl76 : isSlc Try.prog 76 = false := by kernel_rfl
@[push_cast] theorem ist76 : isStr Try.prog 76 = false := by kernel_rfl
@[push_cast] theorem ik76 : ikd Try.prog 76 = none := by kernel_rfl
@[push_cast] theorem tk77 : tk Try.prog 77 = .scal := by kernel_rfl
@[push_cast] theorem zc77 : zc Try.prog 77 = some [.nilFunc] := by kernel_rfl
@[push_cast] theorem nk77 : nk Try.prog 77 = .fnc := by kernel_rfl
@[push_cast] theorem cc77 : Go.Abs.concrete Try.prog 77 = true := by kernel_rfl
@[push_cast] theorem isl77 : isSlc Try.prog 77 = false := by kernel_rfl
@[push_cast] theorem ist77 : isStr Try.prog 77 = false := by kernel_rfl
@[push_cast] theorem ik77 : ikd Try.prog 77 = none := by kernel_rfl
@[push_cast] theorem tk78 : tk Try.prog 78 = .scal := by kernel_rfl
@[push_cast] theorem zc78 : zc Try.prog 78 = some [.slice none 0 0] := by kernel_rfl
@[push_cast] theorem nk78 : nk Try.prog 78 = .slc := by kernel_rfl
@[push_cast] theorem cc78 : Go.Abs.concrete Try.prog 78 = true := by kernel_rfl
@[push_cast] theorem isl78 : isSlc Try.prog 78 = true := by kernel_rfl
@[push_cast] theorem ist78 : isStr Try.prog 78 = false := by kernel_rfl
@[push_cast] theorem ik78 : ikd Try.prog 78 = none := by kernel_rfl
@[push_cast] theorem es78 : elSz Try.prog 78 = some 7 := by kernel_rfl
@[push_cast] theorem eb78 : elB Try.prog 78 = 64 := by kernel_rfl
@[push_cast] theorem el78 : elT Try.prog 78 = some 61 := by kernel_rfl
@[push_cast] theorem by78 : isBys Try.prog 78 = false := by kernel_rfl
@[push_cast] theorem tk79 : tk Try.prog 79 = .scal := by kernel_rfl
@[push_cast] theorem zc79 : zc Try.prog 79 = some [.nilFunc] := by kernel_rfl
@[push_cast] theorem nk79 : nk Try.prog 79 = .fnc := by kernel_rfl
@[push_cast] theorem cc79 : Go.Abs.concrete Try.prog 79 = true := by kernel_rfl
@[push_cast] theorem isl79 : isSlc Try.prog 79 = false := by kernel_rfl
@[push_cast] theorem ist79 : isStr Try.prog 79 = false := by kernel_rfl
@[push_cast] theorem ik79 : ikd Try.prog 79 = none := by kernel_rfl
@[push_cast] theorem tk80 : tk Try.prog 80 = .scal := by kernel_rfl
@[push_cast] theorem zc80 : zc Try.prog 80 = some [.nilFunc] := by kernel_rfl
@[push_cast] theorem nk80 : nk Try.prog 80 = .fnc := by kernel_rfl
@[push_cast] theorem cc80 : Go.Abs.concrete Try.prog 80 = true := by kernel_rfl
@[push_cast] theorem isl80 : isSlc Try.prog 80 = false := by kernel_rfl
@[push_cast] theorem ist80 : isStr Try.prog 80 = false := by kernel_rfl
@[push_cast] theorem ik80 : ikd Try.prog 80 = none := by kernel_rfl
@[push_cast] theorem tk81 : tk Try.prog 81 = .scal := by kernel_rfl
@[push_cast] theorem zc81 : zc Try.prog 81 = some [.nilFunc] := by kernel_rfl
@[push_cast] theorem nk81 : nk Try.prog 81 = .fnc := by kernel_rfl
@[push_cast] theorem cc81 : Go.Abs.concrete Try.prog 81 = true := by kernel_rfl
@[push_cast] theorem isl81 : isSlc Try.prog 81 = false := by kernel_rfl
@[push_cast] theorem ist81 : isStr Try.prog 81 = false := by kernel_rfl
@[push_cast] theorem ik81 : ikd Try.prog 81 = none := by kernel_rfl
@[push_cast] theorem tk82 : tk Try.prog 82 = .scal := by kernel_rfl
@[push_cast] theorem zc82 : zc Try.prog 82 = some [.nilFunc] := by kernel_rfl
@[push_cast] theorem nk82 : nk Try.prog 82 = .fnc := by kernel_rfl
@[push_cast] theorem cc82 : Go.Abs.concrete Try.prog 82 = true := by kernel_rfl
@[push_cast] theorem isl82 : isSlc Try.prog 82 = false := by kernel_rfl
@[push_cast] theorem ist82 : isStr Try.prog 82 = false := by kernel_rfl
@[push_cast] theorem ik82 : ikd Try.prog 82 = none := by kernel_rfl
@[push_cast] theorem tk83 : tk Try.prog 83 = .scal := by kernel_rfl
@[push_cast] theorem zc83 : zc Try.prog 83 = some [.nilFunc] := by kernel_rfl
@[push_cast] theorem nk83 : nk Try.prog 83 = .fnc := by kernel_rfl
@[push_cast] theorem cc83 : Go.Abs.concrete Try.prog 83 = true := by kernel_rfl
@[push_cast] theorem isl83 : isSlc Try.prog 83 = false := by kernel_rfl
@[push_cast] theorem ist83 : isStr Try.prog 83 = false := by kernel_rfl
@[push_cast] theorem ik83 : ikd Try.prog 83 = none := by kernel_rfl
@[push_cast] theorem tk84 : tk Try.prog 84 = .scal := by kernel_rfl
@[push_cast] theorem zc84 : zc Try.prog 84 = some [.nilFunc] := by kernel_rfl
@[push_cast] theorem nk84 : nk Try.prog 84 = .fnc := by kernel_rfl
@[push_cast] theorem cc84 : Go.Abs.concrete Try.prog 84 = true := by kernel_rfl
@[push_cast] theorem isl84 : isSlc Try.prog 84 = false := by kernel_rfl
@[push_cast] theorem ist84 : isStr Try.prog 84 = false := by kernel_rfl
@[push_cast] theorem ik84 : ikd Try.prog 84 = none := by kernel_rfl
@[push_cast] theorem tk85 : tk Try.prog 85 = .scal := by kernel_rfl
@[push_cast] theorem zc85 : zc Try.prog 85 = some [.nilFunc] := by kernel_rfl
@[push_cast] theorem nk85 : nk Try.prog 85 = .fnc := by kernel_rfl
@[push_cast] theorem cc85 : Go.Abs.concrete Try.prog 85 = true := by kernel_rfl
@[push_cast] theorem isl85 : isSlc Try.prog 85 = false := by kernel_rfl
@[push_cast] theorem ist85 : isStr Try.prog 85 = false := by kernel_rfl
@[push_cast] theorem ik85 : ikd Try.prog 85 = none := by kernel_rfl
@[push_cast] theorem tk86 : tk Try.prog 86 = .scal := by kernel_rfl
@[push_cast] theorem zc86 : zc Try.prog 86 = some [.nilFunc] := by kernel_rfl
@[push_cast] theorem nk86 : nk Try.prog 86 = .fnc := by kernel_rfl
@[push_cast] theorem cc86 : Go.Abs.concrete Try.prog 86 = true := by kernel_rfl
@[push_cast] theorem isl86 : isSlc Try.prog 86 = false := by kernel_rfl
@[push_cast] theorem ist86 : isStr Try.prog 86 = false := by kernel_rfl
@[push_cast] theorem ik86 : ikd Try.prog 86 = none := by kernel_rfl
@[push_cast] theorem tk87 : tk Try.prog 87 = .scal := by kernel_rfl
@[push_cast] theorem zc87 : zc Try.prog 87 = some [.nilFunc] := by kernel_rfl
@[push_cast] theorem nk87 : nk Try.prog 87 = .fnc := by kernel_rfl
@[push_cast] theorem cc87 : Go.Abs.concrete Try.prog 87 = true := by kernel_rfl
@[push_cast] theorem isl87 : isSlc Try.prog 87 = false := by kernel_rfl
@[push_cast] theorem ist87 : isStr Try.prog 87 = false := by kernel_rfl
@[push_cast] theorem ik87 : ikd Try.prog 87 = none := by kernel_rfl
@[push_cast] theorem tk88 : tk Try.prog 88 = .scal := by kernel_rfl
@[push_cast] theorem zc88 : zc Try.prog 88 = some [.int .i64 0] := by kernel_rfl
@[push_cast] theorem nk88 : nk Try.prog 88 = .other := by kernel_rfl
@[push_cast] theorem cc88 : Go.Abs.concrete Try.prog 88 = true := by kernel_rfl
@[push_cast] theorem isl88 : isSlc Try.prog 88 = false := by kernel_rfl
@[push_cast] theorem ist88 : isStr Try.prog 88 = false := by kernel_rfl
@[push_cast] theorem ik88 : ikd Try.prog 88 = some .i64 := by kernel_rfl
@[push_cast] theorem tk89 : tk Try.prog 89 = .aggr 7 := by kernel_rfl
@[push_cast] theorem zc89 : zc Try.prog 89 = some [.int .i64 0, .int .u16 0, .string ⟨#[]⟩, .int .i64 0, .int .i64 0, .int .i64 0, .int .i64 0] := by kernel_rfl
@[push_cast] theorem fld89_0 : fld Try.prog 89 0 = some (0, .scal) := by kernel_rfl
@[push_cast] theorem fld89_1 : fld Try.prog 89 1 = some (1, .scal) := by kernel_rfl
@[push_cast] theorem fld89_2 : fld Try.prog 89 2 = some (2, .scal) := by kernel_rfl
@[push_cast] theorem fld89_3 : fld Try.prog 89 3 = some (3, .scal) := by kernel_rfl
@[push_cast] theorem fld89_4 : fld Try.prog 89 4 = some (4, .scal) := by kernel_rfl
@[push_cast] theorem fld89_5 : fld Try.prog 89 5 = some (5, .scal) := by kernel_rfl
@[push_cast] theorem fld89_6 : fld Try.prog 89 6 = some (6, .scal) := by kernel_rfl
@[push_cast] theorem pl89 : places Try.prog 89 = some [(0, 1), (1, 1), (2, 1), (3, 1), (4, 1), (5, 1), (6, 1)] := by kernel_rfl
@[push_cast] theorem nk89 : nk Try.prog 89 = .other := by kernel_rfl
@[push_cast] theorem cc89 : Go.Abs.concrete Try.prog 89 = true := by kernel_rfl
@[push_cast] theorem isl89 : isSlc Try.prog 89 = false := by kernel_rfl
@[push_cast] theorem ist89 : isStr Try.prog 89 = false := by kernel_rfl
@[push_cast] theorem ik89 : ikd Try.prog 89 = none := by kernel_rfl
@[push_cast] theorem tk91 : tk Try.prog 91 = .scal := by kernel_rfl
@[push_cast] theorem zc91 : zc Try.prog 91 = some [.nilFunc] := by kernel_rfl
@[push_cast] theorem nk91 : nk Try.prog 91 = .fnc := by kernel_rfl
@[push_cast] theorem cc91 : Go.Abs.concrete Try.prog 91 = true := by kernel_rfl
@[push_cast] theorem isl91 : isSlc Try.prog 91 = false := by kernel_rfl
@[push_cast] theorem ist91 : isStr Try.prog 91 = false := by kernel_rfl
@[push_cast] theorem ik91 : ikd Try.prog 91 = none := by kernel_rfl
@[push_cast] theorem tk92 : tk Try.prog 92 = .scal := by kernel_rfl
@[push_cast] theorem zc92 : zc Try.prog 92 = some [.nilFunc] := by kernel_rfl
@[push_cast] theorem nk92 : nk Try.prog 92 = .fnc := by kernel_rfl
@[push_cast] theorem cc92 : Go.Abs.concrete Try.prog 92 = true := by kernel_rfl
@[push_cast] theorem isl92 : isSlc Try.prog 92 = false := by kernel_rfl
@[push_cast] theorem ist92 : isStr Try.prog 92 = false := by kernel_rfl
@[push_cast] theorem ik92 : ikd Try.prog 92 = none := by kernel_rfl
@[push_cast] theorem tk93 : tk Try.prog 93 = .scal := by kernel_rfl
@[push_cast] theorem zc93 : zc Try.prog 93 = some [.nilFunc] := by kernel_rfl
@[push_cast] theorem nk93 : nk Try.prog 93 = .fnc := by kernel_rfl
@[push_cast] theorem cc93 : Go.Abs.concrete Try.prog 93 = true := by kernel_rfl
@[push_cast] theorem isl93 : isSlc Try.prog 93 = false := by kernel_rfl
@[push_cast] theorem ist93 : isStr Try.prog 93 = false := by kernel_rfl
@[push_cast] theorem ik93 : ikd Try.prog 93 = none := by kernel_rfl
@[push_cast] theorem tk94 : tk Try.prog 94 = .scal := by kernel_rfl
@[push_cast] theorem zc94 : zc Try.prog 94 = some [.nilFunc] := by kernel_rfl
@[push_cast] theorem nk94 : nk Try.prog 94 = .fnc := by kernel_rfl
@[push_cast] theorem cc94 : Go.Abs.concrete Try.prog 94 = true := by kernel_rfl
@[push_cast] theorem isl94 : isSlc Try.prog 94 = false := by kernel_rfl
@[push_cast] theorem ist94 : isStr Try.prog 94 = false := by kernel_rfl
@[push_cast] theorem ik94 : ikd Try.prog 94 = none := by kernel_rfl
@[push_cast] theorem tk96 : tk Try.prog 96 = .scal := by kernel_rfl
@[push_cast] theorem zc96 : zc Try.prog 96 = some [.nilFunc] := by kernel_rfl
@[push_cast] theorem nk96 : nk Try.prog 96 = .fnc := by kernel_rfl
@[push_cast] theorem cc96 : Go.Abs.concrete Try.prog 96 = true := by kernel_rfl
@[push_cast] theorem isl96 : isSlc Try.prog 96 = false := by kernel_rfl
@[push_cast] theorem ist96 : isStr Try.prog 96 = false := by kernel_rfl
@[push_cast] theorem ik96 : ikd Try.prog 96 = none := by kernel_rfl
@[push_cast] theorem tk97 : tk Try.prog 97 = .scal := by kernel_rfl
@[push_cast] theorem zc97 : zc Try.prog 97 = some [.nilFunc] := by kernel_rfl
@[push_cast] theorem nk97 : nk Try.prog 97 = .fnc := by kernel_rfl
@[push_cast] theorem cc97 : Go.Abs.concrete Try.prog 97 = true := by kernel_rfl
@[push_cast] theorem isl97 : isSlc Try.prog 97 = false := by kernel_rfl
@[push_cast] theorem ist97 : isStr Try.prog 97 = false := by kernel_rfl
@[push_cast] theorem ik97 : ikd Try.prog 97 = none := by kernel_rfl
@[push_cast] theorem tk98 : tk Try.prog 98 = .scal := by kernel_rfl
@[push_cast] theorem zc98 : zc Try.prog 98 = some [.map none] := by kernel_rfl
@[push_cast] theorem mk98 : mpKey Try.prog 98 = some (.u16, 89) := by kernel_rfl
@[push_cast] theorem mz98 : mpZero Try.prog 89 = some (.agg #[.int .i64 0, .int .u16 0, .string ⟨#[]⟩, .int .i64 0, .int .i64 0, .int .i64 0, .int .i64 0]) := by kernel_rfl
@[push_cast] theorem nk98 : nk Try.prog 98 = .other := by kernel_rfl
@[push_cast] theorem cc98 : Go.Abs.concrete Try.prog 98 = true := by kernel_rfl
@[push_cast] theorem isl98 : isSlc Try.prog 98 = false := by kernel_rfl
@[push_cast] theorem ist98 : isStr Try.prog 98 = false := by kernel_rfl
@[push_cast] theorem ik98 : ikd Try.prog 98 = none := by kernel_rfl
@[push_cast] theorem tk99 : tk Try.prog 99 = .scal := by kernel_rfl
@[push_cast] theorem zc99 : zc Try.prog 99 = some [.nilFunc] := by kernel_rfl
@[push_cast] theorem nk99 : nk Try.prog 99 = .fnc := by kernel_rfl
@[push_cast] theorem cc99 : Go.Abs.concrete Try.prog 99 = true := by kernel_rfl
@[push_cast] theorem isl99 : isSlc Try.prog 99 = false := by kernel_rfl
@[push_cast] theorem ist99 : isStr Try.prog 99 = false := by kernel_rfl
@[push_cast] theorem ik99 : ikd Try.prog 99 = none := by kernel_rfl
@[push_cast] theorem tk100 : tk Try.prog 100 = .scal := by kernel_rfl
@[push_cast] theorem zc100 : zc Try.prog 100 = some [.pointer none] := by kernel_rfl
@[push_cast] theorem nk100 : nk Try.prog 100 = .ptr := by kernel_rfl
@[push_cast] theorem cc100 : Go.Abs.concrete Try.prog 100 = true := by kernel_rfl
@[push_cast] theorem isl100 : isSlc Try.prog 100 = false := by kernel_rfl
@[push_cast] theorem ist100 : isStr Try.prog 100 = false := by kernel_rfl
@[push_cast] theorem ik100 : ikd Try.prog 100 = none := by kernel_rfl
@[push_cast] theorem tk101 : tk Try.prog 101 = .scal := by kernel_rfl
@[push_cast] theorem zc101 : zc Try.prog 101 = some [.nilFunc] := by kernel_rfl
@[push_cast] theorem nk101 : nk Try.prog 101 = .fnc := by kernel_rfl
@[push_cast] theorem cc101 : Go.Abs.concrete Try.prog 101 = true := by kernel_rfl
@[push_cast] theorem isl101 : isSlc Try.prog 101 = false := by kernel_rfl
@[push_cast] theorem ist101 : isStr Try.prog 101 = false := by kernel_rfl
@[push_cast] theorem ik101 : ikd Try.prog 101 = none := by kernel_rfl
@[push_cast] theorem tk102 : tk Try.prog 102 = .scal := by kernel_rfl
@[push_cast] theorem zc102 : zc Try.prog 102 = some [.nilFunc] := by kernel_rfl
@[push_cast] theorem nk102 : nk Try.prog 102 = .fnc := by kernel_rfl
@[push_cast] theorem cc102 : Go.Abs.concrete Try.prog 102 = true := by kernel_rfl
@[push_cast] theorem isl102 : isSlc Try.prog 102 = false := by kernel_rfl
@[push_cast] theorem ist102 : isStr Try.prog 102 = false := by kernel_rfl
@[push_cast] theorem ik102 : ikd Try.prog 102 = none := by kernel_rfl
@[push_cast] theorem tk103 : tk Try.prog 103 = .scal := by kernel_rfl
@[push_cast] theorem zc103 : zc Try.prog 103 = some [.slice none 0 0] := by kernel_rfl
@[push_cast] theorem nk103 : nk Try.prog 103 = .slc := by kernel_rfl
@[push_cast] theorem cc103 : Go.Abs.concrete Try.prog 103 = true := by kernel_rfl
@[push_cast] theorem isl103 : isSlc Try.prog 103 = true := by kernel_rfl
@[push_cast] theorem ist103 : isStr Try.prog 103 = false := by kernel_rfl
@[push_cast] theorem ik103 : ikd Try.prog 103 = none := by kernel_rfl
@[push_cast] theorem es103 : elSz Try.prog 103 = some 2 := by kernel_rfl
@[push_cast] theorem eb103 : elB Try.prog 103 = 32 := by kernel_rfl
@[push_cast] theorem el103 : elT Try.prog 103 = some 105 := by kernel_rfl
@[push_cast] theorem by103 : isBys Try.prog 103 = false := by kernel_rfl
@[push_cast] theorem tk104 : tk Try.prog 104 = .aggr 2 := by kernel_rfl
@[push_cast] theorem zc104 : zc Try.prog 104 = some [.int .u16 0, .slice none 0 0] := by kernel_rfl
@[push_cast] theorem fld104_0 : fld Try.prog 104 0 = some (0, .scal) := by kernel_rfl
@[push_cast] theorem fld104_1 : fld Try.prog 104 1 = some (1, .scal) := by kernel_rfl
@[push_cast] theorem pl104 : places Try.prog 104 = some [(0, 1), (1, 1)] := by kernel_rfl
@[push_cast] theorem nk104 : nk Try.prog 104 = .other := by kernel_rfl
@[push_cast] theorem cc104 : Go.Abs.concrete Try.prog 104 = true := by kernel_rfl
@[push_cast] theorem isl104 : isSlc Try.prog 104 = false := by kernel_rfl
@[push_cast] theorem ist104 : isStr Try.prog 104 = false := by kernel_rfl
@[push_cast] theorem ik104 : ikd Try.prog 104 = none := by kernel_rfl
@[push_cast] theorem tk105 : tk Try.prog 105 = .aggr 2 := by kernel_rfl
@[push_cast] theorem zc105 : zc Try.prog 105 = some [.int .u16 0, .slice none 0 0] := by kernel_rfl
@[push_cast] theorem fld105_0 : fld Try.prog 105 0 = some (0, .scal) := by kernel_rfl
@[push_cast] theorem fld105_1 : fld Try.prog 105 1 = some (1, .scal) := by kernel_rfl
@[push_cast] theorem pl105 : places Try.prog 105 = some [(0, 1), (1, 1)] := by kernel_rfl
@[push_cast] theorem nk105 : nk Try.prog 105 = .other := by kernel_rfl
@[push_cast] theorem cc105 : Go.Abs.concrete Try.prog 105 = true := by kernel_rfl
@[push_cast] theorem isl105 : isSlc Try.prog 105 = false := by kernel_rfl
@[push_cast] theorem ist105 : isStr Try.prog 105 = false := by kernel_rfl
@[push_cast] theorem ik105 : ikd Try.prog 105 = none := by kernel_rfl
@[push_cast] theorem tk106 : tk Try.prog 106 = .scal := by kernel_rfl
@[push_cast] theorem zc106 : zc Try.prog 106 = some [.nilFunc] := by kernel_rfl
@[push_cast] theorem nk106 : nk Try.prog 106 = .fnc := by kernel_rfl
@[push_cast] theorem cc106 : Go.Abs.concrete Try.prog 106 = true := by kernel_rfl
@[push_cast] theorem isl106 : isSlc Try.prog 106 = false := by kernel_rfl
@[push_cast] theorem ist106 : isStr Try.prog 106 = false := by kernel_rfl
@[push_cast] theorem ik106 : ikd Try.prog 106 = none := by kernel_rfl
@[push_cast] theorem tk107 : tk Try.prog 107 = .scal := by kernel_rfl
@[push_cast] theorem zc107 : zc Try.prog 107 = some [.slice none 0 0] := by kernel_rfl
@[push_cast] theorem nk107 : nk Try.prog 107 = .slc := by kernel_rfl
@[push_cast] theorem cc107 : Go.Abs.concrete Try.prog 107 = true := by kernel_rfl
@[push_cast] theorem isl107 : isSlc Try.prog 107 = true := by kernel_rfl
@[push_cast] theorem ist107 : isStr Try.prog 107 = false := by kernel_rfl
@[push_cast] theorem ik107 : ikd Try.prog 107 = none := by kernel_rfl
@[push_cast] theorem es107 : elSz Try.prog 107 = some 7 := by kernel_rfl
@[push_cast] theorem eb107 : elB Try.prog 107 = 64 := by kernel_rfl
@[push_cast] theorem el107 : elT Try.prog 107 = some 89 := by kernel_rfl
@[push_cast] theorem by107 : isBys Try.prog 107 = false := by kernel_rfl
@[push_cast] theorem tk108 : tk Try.prog 108 = .aggr 3 := by kernel_rfl
@[push_cast] theorem zc108 : zc Try.prog 108 = some [.slice none 0 0, .slice none 0 0, .slice none 0 0] := by kernel_rfl
@[push_cast] theorem pl108 : places Try.prog 108 = some [(0, 1), (1, 1), (2, 1)] := by kernel_rfl
@[push_cast] theorem at108 : arrT Try.prog 108 = some (3, 107, 1) := by kernel_rfl
@[push_cast] theorem nk108 : nk Try.prog 108 = .other := by kernel_rfl
@[push_cast] theorem cc108 : Go.Abs.concrete Try.prog 108 = true := by kernel_rfl
@[push_cast] theorem isl108 : isSlc Try.prog 108 = false := by kernel_rfl
@[push_cast] theorem ist108 : isStr Try.prog 108 = false := by kernel_rfl
@[push_cast] theorem ik108 : ikd Try.prog 108 = none := by kernel_rfl
@[push_cast] theorem tk109 : tk Try.prog 109 = .scal := by kernel_rfl
@[push_cast] theorem zc109 : zc Try.prog 109 = some [.nilFunc] := by kernel_rfl
@[push_cast] theorem nk109 : nk Try.prog 109 = .fnc := by kernel_rfl
@[push_cast] theorem cc109 : Go.Abs.concrete Try.prog 109 = true := by kernel_rfl
@[push_cast] theorem isl109 : isSlc Try.prog 109 = false := by kernel_rfl
@[push_cast] theorem ist109 : isStr Try.prog 109 = false := by kernel_rfl
@[push_cast] theorem ik109 : ikd Try.prog 109 = none := by kernel_rfl
@[push_cast] theorem tk110 : tk Try.prog 110 = .aggr 2 := by kernel_rfl
@[push_cast] theorem zc110 : zc Try.prog 110 = some [.slice none 0 0, .int .i64 0] := by kernel_rfl
@[push_cast] theorem fld110_0 : fld Try.prog 110 0 = some (0, .scal) := by kernel_rfl
@[push_cast] theorem fld110_1 : fld Try.prog 110 1 = some (1, .scal) := by kernel_rfl
@[push_cast] theorem pl110 : places Try.prog 110 = some [(0, 1), (1, 1)] := by kernel_rfl
@[push_cast] theorem nk110 : nk Try.prog 110 = .other := by kernel_rfl
@[push_cast] theorem cc110 : Go.Abs.concrete Try.prog 110 = true := by kernel_rfl
@[push_cast] theorem isl110 : isSlc Try.prog 110 = false := by kernel_rfl
@[push_cast] theorem ist110 : isStr Try.prog 110 = false := by kernel_rfl
@[push_cast] theorem ik110 : ikd Try.prog 110 = none := by kernel_rfl
@[push_cast] theorem tk111 : tk Try.prog 111 = .aggr 2 := by kernel_rfl
@[push_cast] theorem zc111 : zc Try.prog 111 = some [.slice none 0 0, .int .i64 0] := by kernel_rfl
@[push_cast] theorem fld111_0 : fld Try.prog 111 0 = some (0, .scal) := by kernel_rfl
@[push_cast] theorem fld111_1 : fld Try.prog 111 1 = some (1, .scal) := by kernel_rfl
@[push_cast] theorem pl111 : places Try.prog 111 = some [(0, 1), (1, 1)] := by kernel_rfl
@[push_cast] theorem nk111 : nk Try.prog 111 = .other := by kernel_rfl
@[push_cast] theorem cc111 : Go.Abs.concrete Try.prog 111 = true := by kernel_rfl
@[push_cast] theorem isl111 : isSlc Try.prog 111 = false := by kernel_rfl
@[push_cast] theorem ist111 : isStr Try.prog 111 = false := by kernel_rfl
@[push_cast] theorem ik111 : ikd Try.prog 111 = none := by kernel_rfl
@[push_cast] theorem tk112 : tk Try.prog 112 = .scal := by kernel_rfl
@[push_cast] theorem zc112 : zc Try.prog 112 = some [.slice none 0 0] := by kernel_rfl
@[push_cast] theorem nk112 : nk Try.prog 112 = .slc := by kernel_rfl
@[push_cast] theorem cc112 : Go.Abs.concrete Try.prog 112 = true := by kernel_rfl
@[push_cast] theorem isl112 : isSlc Try.prog 112 = true := by kernel_rfl
@[push_cast] theorem ist112 : isStr Try.prog 112 = false := by kernel_rfl
@[push_cast] theorem ik112 : ikd Try.prog 112 = none := by kernel_rfl
@[push_cast] theorem es112 : elSz Try.prog 112 = some 1 := by kernel_rfl
@[push_cast] theorem eb112 : elB Try.prog 112 = 8 := by kernel_rfl
@[push_cast] theorem el112 : elT Try.prog 112 = some 3 := by kernel_rfl
@[push_cast] theorem by112 : isBys Try.prog 112 = false := by kernel_rfl
@[push_cast] theorem tk113 : tk Try.prog 113 = .scal := by kernel_rfl
@[push_cast] theorem zc113 : zc Try.prog 113 = some [.nilFunc] := by kernel_rfl
@[push_cast] theorem nk113 : nk Try.prog 113 = .fnc := by kernel_rfl
@[push_cast] theorem cc113 : Go.Abs.concrete Try.prog 113 = true := by kernel_rfl
@[push_cast] theorem isl113 : isSlc Try.prog 113 = false := by kernel_rfl
@[push_cast] theorem ist113 : isStr Try.prog 113 = false := by kernel_rfl
@[push_cast] theorem ik113 : ikd Try.prog 113 = none := by kernel_rfl
@[push_cast] theorem tk114 : tk Try.prog 114 = .scal := by kernel_rfl
@[push_cast] theorem zc114 : zc Try.prog 114 = some [.nilFunc] := by kernel_rfl
@[push_cast] theorem nk114 : nk Try.prog 114 = .fnc := by kernel_rfl
@[push_cast] theorem cc114 : Go.Abs.concrete Try.prog 114 = true := by kernel_rfl
@[push_cast] theorem isl114 : isSlc Try.prog 114 = false := by kernel_rfl
@[push_cast] theorem ist114 : isStr Try.prog 114 = false := by kernel_rfl
@[push_cast] theorem ik114 : ikd Try.prog 114 = none := by kernel_rfl
@[push_cast] theorem tk115 : tk Try.prog 115 = .scal := by kernel_rfl
@[push_cast] theorem zc115 : zc Try.prog 115 = some [.nilFunc] := by kernel_rfl
@[push_cast] theorem nk115 : nk Try.prog 115 = .fnc := by kernel_rfl
@[push_cast] theorem cc115 : Go.Abs.concrete Try.prog 115 = true := by kernel_rfl
@[push_cast] theorem isl115 : isSlc Try.prog 115 = false := by kernel_rfl
@[push_cast] theorem ist115 : isStr Try.prog 115 = false := by kernel_rfl
@[push_cast] theorem ik115 : ikd Try.prog 115 = none := by kernel_rfl
@[push_cast] theorem tk116 : tk Try.prog 116 = .scal := by kernel_rfl
@[push_cast] theorem zc116 : zc Try.prog 116 = some [.nilFunc] := by kernel_rfl
@[push_cast] theorem nk116 : nk Try.prog 116 = .fnc := by kernel_rfl
@[push_cast] theorem cc116 : Go.Abs.concrete Try.prog 116 = true := by kernel_rfl
@[push_cast] theorem isl116 : isSlc Try.prog 116 = false := by kernel_rfl
@[push_cast] theorem ist116 : isStr Try.prog 116 = false := by kernel_rfl
@[push_cast] theorem ik116 : ikd Try.prog 116 = none := by kernel_rfl
@[push_cast] theorem tk117 : tk Try.prog 117 = .aggr 4 := by kernel_rfl
@[push_cast] theorem zc117 : zc Try.prog 117 = some [.pointer none, .pointer none, .pointer none, .string ⟨#[]⟩] := by kernel_rfl
@[push_cast] theorem fld117_0 : fld Try.prog 117 0 = some (0, .scal) := by kernel_rfl
@[push_cast] theorem fld117_1 : fld Try.prog 117 1 = some (1, .scal) := by kernel_rfl
@[push_cast] theorem fld117_2 : fld Try.prog 117 2 = some (2, .scal) := by kernel_rfl
@[push_cast] theorem fld117_3 : fld Try.prog 117 3 = some (3, .scal) := by kernel_rfl
@[push_cast] theorem pl117 : places Try.prog 117 = some [(0, 1), (1, 1), (2, 1), (3, 1)] := by kernel_rfl
@[push_cast] theorem nk117 : nk Try.prog 117 = .other := by kernel_rfl
@[push_cast] theorem cc117 : Go.Abs.concrete Try.prog 117 = true := by kernel_rfl
@[push_cast] theorem isl117 : isSlc Try.prog 117 = false := by kernel_rfl
@[push_cast] theorem ist117 : isStr Try.prog 117 = false := by kernel_rfl
@[push_cast] theorem ik117 : ikd Try.prog 117 = none := by kernel_rfl
@[push_cast] theorem tk118 : tk Try.prog 118 = .aggr 4 := by kernel_rfl
@[push_cast] theorem zc118 : zc Try.prog 118 = some [.pointer none, .pointer none, .pointer none, .string ⟨#[]⟩] := by kernel_rfl
@[push_cast] theorem fld118_0 : fld Try.prog 118 0 = some (0, .scal) := by kernel_rfl
@[push_cast] theorem fld118_1 : fld Try.prog 118 1 = some (1, .scal) := by kernel_rfl
@[push_cast] theorem fld118_2 : fld Try.prog 118 2 = some (2, .scal) := by kernel_rfl
@[push_cast] theorem fld118_3 : fld Try.prog 118 3 = some (3, .scal) := by kernel_rfl
@[push_cast] theorem pl118 : places Try.prog 118 = some [(0, 1), (1, 1), (2, 1), (3, 1)] := by kernel_rfl
@[push_cast] theorem nk118 : nk Try.prog 118 = .other := by kernel_rfl
@[push_cast] theorem cc118 : Go.Abs.concrete Try.prog 118 = true := by kernel_rfl
@[push_cast] theorem isl118 : isSlc Try.prog 118 = false := by kernel_rfl
@[push_cast] theorem ist118 : isStr Try.prog 118 = false := by kernel_rfl
@[push_cast] theorem ik118 : ikd Try.prog 118 = none := by kernel_rfl
@[push_cast] theorem tk119 : tk Try.prog 119 = .aggr 0 := by kernel_rfl
@[push_cast] theorem zc119 : zc Try.prog 119 = some [] := by kernel_rfl
@[push_cast] theorem pl119 : places Try.prog 119 = some [] := by kernel_rfl
@[push_cast] theorem at119 : arrT Try.prog 119 = some (0, 16, 1) := by kernel_rfl
@[push_cast] theorem nk119 : nk Try.prog 119 = .other := by kernel_rfl
@[push_cast] theorem cc119 : Go.Abs.concrete Try.prog 119 = true := by kernel_rfl
@[push_cast] theorem isl119 : isSlc Try.prog 119 = false := by kernel_rfl
@[push_cast] theorem ist119 : isStr Try.prog 119 = false := by kernel_rfl
@[push_cast] theorem ik119 : ikd Try.prog 119 = none := by kernel_rfl
@[push_cast] theorem tk120 : tk Try.prog 120 = .aggr 0 := by kernel_rfl
@[push_cast] theorem zc120 : zc Try.prog 120 = some [] := by kernel_rfl
@[push_cast] theorem pl120 : places Try.prog 120 = some [(0, 0)] := by kernel_rfl
@[push_cast] theorem nk120 : nk Try.prog 120 = .other := by kernel_rfl
@[push_cast] theorem cc120 : Go.Abs.concrete Try.prog 120 = true := by kernel_rfl
@[push_cast] theorem isl120 : isSlc Try.prog 120 = false := by kernel_rfl
@[push_cast] theorem ist120 : isStr Try.prog 120 = false := by kernel_rfl
@[push_cast] theorem ik120 : ikd Try.prog 120 = none := by kernel_rfl
@[push_cast] theorem tk121 : tk Try.prog 121 = .aggr 0 := by kernel_rfl
@[push_cast] theorem zc121 : zc Try.prog 121 = some [] := by kernel_rfl
@[push_cast] theorem pl121 : places Try.prog 121 = some [(0, 0)] := by kernel_rfl
@[push_cast] theorem nk121 : nk Try.prog 121 = .other := by kernel_rfl
@[push_cast] theorem cc121 : Go.Abs.concrete Try.prog 121 = true := by kernel_rfl
@[push_cast] theorem isl121 : isSlc Try.prog 121 = false := by kernel_rfl
@[push_cast] theorem ist121 : isStr Try.prog 121 = false := by kernel_rfl
@[push_cast] theorem ik121 : ikd Try.prog 121 = none := by kernel_rfl
@[push_cast] theorem tk122 : tk Try.prog 122 = .scal := by kernel_rfl
@[push_cast] theorem zc122 : zc Try.prog 122 = some [.int .u8 0] := by kernel_rfl
@[push_cast] theorem nk122 : nk Try.prog 122 = .other := by kernel_rfl
@[push_cast] theorem cc122 : Go.Abs.concrete Try.prog 122 = true := by kernel_rfl
@[push_cast] theorem isl122 : isSlc Try.prog 122 = false := by kernel_rfl
@[push_cast] theorem ist122 : isStr Try.prog 122 = false := by kernel_rfl
@[push_cast] theorem ik122 : ikd Try.prog 122 = some .u8 := by kernel_rfl
@[push_cast] theorem tk123 : tk Try.prog 123 = .scal := by kernel_rfl
@[push_cast] theorem zc123 : zc Try.prog 123 = some [.int .u8 0] := by kernel_rfl
@[push_cast] theorem nk123 : nk Try.prog 123 = .other := by kernel_rfl
@[push_cast] theorem cc123 : Go.Abs.concrete Try.prog 123 = true := by kernel_rfl
@[push_cast] theorem isl123 : isSlc Try.prog 123 = false := by kernel_rfl
@[push_cast] theorem ist123 : isStr Try.prog 123 = false := by kernel_rfl
@[push_cast] theorem ik123 : ikd Try.prog 123 = some .u8 := by kernel_rfl
@[push_cast] theorem tk124 : tk Try.prog 124 = .scal := by kernel_rfl
@[push_cast] theorem zc124 : zc Try.prog 124 = some [.nilFunc] := by kernel_rfl
@[push_cast] theorem nk124 : nk Try.prog 124 = .fnc := by kernel_rfl
@[push_cast] theorem cc124 : Go.Abs.concrete Try.prog 124 = true := by kernel_rfl
@[push_cast] theorem isl124 : isSlc Try.prog 124 = false := by kernel_rfl
@[push_cast] theorem ist124 : isStr Try.prog 124 = false := by kernel_rfl
@[push_cast] theorem ik124 : ikd Try.prog 124 = none := by kernel_rfl
@[push_cast] theorem tk125 : tk Try.prog 125 = .scal := by kernel_rfl
@[push_cast] theorem zc125 : zc Try.prog 125 = some [.pointer none] := by kernel_rfl
@[push_cast] theorem nk125 : nk Try.prog 125 = .ptr := by kernel_rfl
@[push_cast] theorem cc125 : Go.Abs.concrete Try.prog 125 = true := by kernel_rfl
@[push_cast] theorem isl125 : isSlc Try.prog 125 = false := by kernel_rfl
@[push_cast] theorem ist125 : isStr Try.prog 125 = false := by kernel_rfl
@[push_cast] theorem ik125 : ikd Try.prog 125 = none := by kernel_rfl
@[push_cast] theorem tk126 : tk Try.prog 126 = .scal := by kernel_rfl
@[push_cast] theorem zc126 : zc Try.prog 126 = some [.int .i32 0] := by kernel_rfl
@[push_cast] theorem nk126 : nk Try.prog 126 = .other := by kernel_rfl
@[push_cast] theorem cc126 : Go.Abs.concrete Try.prog 126 = true := by kernel_rfl
@[push_cast] theorem isl126 : isSlc Try.prog 126 = false := by kernel_rfl
@[push_cast] theorem ist126 : isStr Try.prog 126 = false := by kernel_rfl
@[push_cast] theorem ik126 : ikd Try.prog 126 = some .i32 := by kernel_rfl
@[push_cast] theorem tk127 : tk Try.prog 127 = .scal := by kernel_rfl
@[push_cast] theorem zc127 : zc Try.prog 127 = some [.int .i32 0] := by kernel_rfl
@[push_cast] theorem nk127 : nk Try.prog 127 = .other := by kernel_rfl
@[push_cast] theorem cc127 : Go.Abs.concrete Try.prog 127 = true := by kernel_rfl
@[push_cast] theorem isl127 : isSlc Try.prog 127 = false := by kernel_rfl
@[push_cast] theorem ist127 : isStr Try.prog 127 = false := by kernel_rfl
@[push_cast] theorem ik127 : ikd Try.prog 127 = some .i32 := by kernel_rfl
@[push_cast] theorem tk128 : tk Try.prog 128 = .aggr 11 := by kernel_rfl
@[push_cast] theorem zc128 : zc Try.prog 128 = some [.int .u64 0, .int .u64 0, .int .u32 0, .int .u8 0, .int .u8 0, .int .u8 0, .int .u8 0, .nilFunc, .pointer none, .int .i32 0, .int .i32 0] := by kernel_rfl
@[push_cast] theorem fld128_0 : fld Try.prog 128 0 = some (0, .scal) := by kernel_rfl
@[push_cast] theorem fld128_1 : fld Try.prog 128 1 = some (1, .scal) := by kernel_rfl
@[push_cast] theorem fld128_2 : fld Try.prog 128 2 = some (2, .scal) := by kernel_rfl
@[push_cast] theorem fld128_3 : fld Try.prog 128 3 = some (3, .scal) := by kernel_rfl
@[push_cast] theorem fld128_4 : fld Try.prog 128 4 = some (4, .scal) := by kernel_rfl
@[push_cast] theorem fld128_5 : fld Try.prog 128 5 = some (5, .scal) := by kernel_rfl
@[push_cast] theorem fld128_6 : fld Try.prog 128 6 = some (6, .scal) := by kernel_rfl
@[push_cast] theorem fld128_7 : fld Try.prog 128 7 = some (7, .scal) := by kernel_rfl
@[push_cast] theorem fld128_8 : fld Try.prog 128 8 = some (8, .scal) := by kernel_rfl
@[push_cast] theorem fld128_9 : fld Try.prog 128 9 = some (9, .scal) := by kernel_rfl
@[push_cast] theorem fld128_10 : fld Try.prog 128 10 = some (10, .scal) := by kernel_rfl
@[push_cast] theorem pl128 : places Try.prog 128 = some [(0, 1), (1, 1), (2, 1), (3, 1), (4, 1), (5, 1), (6, 1), (7, 1), (8, 1), (9, 1), (10, 1)] := by kernel_rfl
@[push_cast] theorem nk128 : nk Try.prog 128 = .other := by kernel_rfl
@[push_cast] theorem cc128 : Go.Abs.concrete Try.prog 128 = true := by kernel_rfl
@[push_cast] theorem isl128 : isSlc Try.prog 128 = false := by kernel_rfl
@[push_cast] theorem ist128 : isStr Try.prog 128 = false := by kernel_rfl
@[push_cast] theorem ik128 : ikd Try.prog 128 = none := by kernel_rfl
@[push_cast] theorem tk129 : tk Try.prog 129 = .aggr 11 := by kernel_rfl
@[push_cast] theorem zc129 : zc Try.prog 129 = some [.int .u64 0, .int .u64 0, .int .u32 0, .int .u8 0, .int .u8 0, .int .u8 0, .int .u8 0, .nilFunc, .pointer none, .int .i32 0, .int .i32 0] := by kernel_rfl
@[push_cast] theorem fld129_0 : fld Try.prog 129 0 = some (0, .scal) := by kernel_rfl
@[push_cast] theorem fld129_1 : fld Try.prog 129 1 = some (1, .scal) := by kernel_rfl
@[push_cast] theorem fld129_2 : fld Try.prog 129 2 = some (2, .scal) := by kernel_rfl
@[push_cast] theorem fld129_3 : fld Try.prog 129 3 = some (3, .scal) := by kernel_rfl
@[push_cast] theorem fld129_4 : fld Try.prog 129 4 = some (4, .scal) := by kernel_rfl
@[push_cast] theorem fld129_5 : fld Try.prog 129 5 = some (5, .scal) := by kernel_rfl
@[push_cast] theorem fld129_6 : fld Try.prog 129 6 = some (6, .scal) := by kernel_rfl
@[push_cast] theorem fld129_7 : fld Try.prog 129 7 = some (7, .scal) := by kernel_rfl
@[push_cast] theorem fld129_8 : fld Try.prog 129 8 = some (8, .scal) := by kernel_rfl
@[push_cast] theorem fld129_9 : fld Try.prog 129 9 = some (9, .scal) := by kernel_rfl
@[push_cast] theorem fld129_10 : fld Try.prog 129 10 = some (10, .scal) := by kernel_rfl
@[push_cast] theorem pl129 : places Try.prog 129 = some [(0, 1), (1, 1), (2, 1), (3, 1), (4, 1), (5, 1), (6, 1), (7, 1), (8, 1), (9, 1), (10, 1)] := by kernel_rfl
@[push_cast] theorem nk129 : nk Try.prog 129 = .other := by kernel_rfl
@[push_cast] theorem cc129 : Go.Abs.concrete Try.prog 129 = true := by kernel_rfl
@[push_cast] theorem isl129 : isSlc Try.prog 129 = false := by kernel_rfl
@[push_cast] theorem ist129 : isStr Try.prog 129 = false := by kernel_rfl
@[push_cast] theorem ik129 : ikd Try.prog 129 = none := by kernel_rfl
@[push_cast] theorem tk130 : tk Try.prog 130 = .scal := by kernel_rfl
@[push_cast] theorem zc130 : zc Try.prog 130 = some [.pointer none] := by kernel_rfl
@[push_cast] theorem nk130 : nk Try.prog 130 = .other := by kernel_rfl
@[push_cast] theorem cc130 : Go.Abs.concrete Try.prog 130 = true := by kernel_rfl
@[push_cast] theorem isl130 : isSlc Try.prog 130 = false := by kernel_rfl
@[push_cast] theorem ist130 : isStr Try.prog 130 = false := by kernel_rfl
@[push_cast] theorem ik130 : ikd Try.prog 130 = none := by kernel_rfl
@[push_cast] theorem mixed : Try.prog.follows .mixedOrders = true := by kernel_rfl
@[push_cast] theorem rg0 : List.range 0 = [] := rfl
@[push_cast] theorem rg1 : List.range 1 = [0] := rfl
@[push_cast] theorem rg2 : List.range 2 = [0, 1] := rfl
@[push_cast] theorem rg3 : List.range 3 = [0, 1, 2] := rfl
@[push_cast] theorem rg4 : List.range 4 = [0, 1, 2, 3] := rfl
@[push_cast] theorem rg5 : List.range 5 = [0, 1, 2, 3, 4] := rfl
@[push_cast] theorem rg6 : List.range 6 = [0, 1, 2, 3, 4, 5] := rfl
@[push_cast] theorem rg7 : List.range 7 = [0, 1, 2, 3, 4, 5, 6] := rfl
@[push_cast] theorem rg8 : List.range 8 = [0, 1, 2, 3, 4, 5, 6, 7] := rfl
@[push_cast] theorem rg9 : List.range 9 = [0, 1, 2, 3, 4, 5, 6, 7, 8] := rfl
@[push_cast] theorem rg10 : List.range 10 = [0, 1, 2, 3, 4, 5, 6, 7, 8, 9] := rfl
@[push_cast] theorem rg11 : List.range 11 = [0, 1, 2, 3, 4, 5, 6, 7, 8, 9, 10] := rfl
@[push_cast] theorem rg12 : List.range 12 = [0, 1, 2, 3, 4, 5, 6, 7, 8, 9, 10, 11] := rfl
@[push_cast] theorem rg13 : List.range 13 = [0, 1, 2, 3, 4, 5, 6, 7, 8, 9, 10, 11, 12] := rfl
@[push_cast] theorem rg14 : List.range 14 = [0, 1, 2, 3, 4, 5, 6, 7, 8, 9, 10, 11, 12, 13] := rfl
@[push_cast] theorem rg15 : List.range 15 = [0, 1, 2, 3, 4, 5, 6, 7, 8, 9, 10, 11, 12, 13, 14] := rfl
@[push_cast] theorem rg16 : List.range 16 = [0, 1, 2, 3, 4, 5, 6, 7, 8, 9, 10, 11, 12, 13, 14, 15] := rfl
@[push_cast] theorem rg17 : List.range 17 = [0, 1, 2, 3, 4, 5, 6, 7, 8, 9, 10, 11, 12, 13, 14, 15, 16] := rfl
@[push_cast] theorem rg18 : List.range 18 = [0, 1, 2, 3, 4, 5, 6, 7, 8, 9, 10, 11, 12, 13, 14, 15, 16, 17] := rfl
@[push_cast] theorem rg19 : List.range 19 = [0, 1, 2, 3, 4, 5, 6, 7, 8, 9, 10, 11, 12, 13, 14, 15, 16, 17, 18] := rfl
@[push_cast] theorem rg20 : List.range 20 = [0, 1, 2, 3, 4, 5, 6, 7, 8, 9, 10, 11, 12, 13, 14, 15, 16, 17, 18, 19] := rfl
@[push_cast] theorem rg21 : List.range 21 = [0, 1, 2, 3, 4, 5, 6, 7, 8, 9, 10, 11, 12, 13, 14, 15, 16, 17, 18, 19, 20] := rfl
@[push_cast] theorem rg22 : List.range 22 = [0, 1, 2, 3, 4, 5, 6, 7, 8, 9, 10, 11, 12, 13, 14, 15, 16, 17, 18, 19, 20, 21] := rfl
@[push_cast] theorem rg23 : List.range 23 = [0, 1, 2, 3, 4, 5, 6, 7, 8, 9, 10, 11, 12, 13, 14, 15, 16, 17, 18, 19, 20, 21, 22] := rfl
@[push_cast] theorem rg24 : List.range 24 = [0, 1, 2, 3, 4, 5, 6, 7, 8, 9, 10, 11, 12, 13, 14, 15, 16, 17, 18, 19, 20, 21, 22, 23] := rfl
@[push_cast] theorem rg25 : List.range 25 = [0, 1, 2, 3, 4, 5, 6, 7, 8, 9, 10, 11, 12, 13, 14, 15, 16, 17, 18, 19, 20, 21, 22, 23, 24] := rfl
@[push_cast] theorem rg26 : List.range 26 = [0, 1, 2, 3, 4, 5, 6, 7, 8, 9, 10, 11, 12, 13, 14, 15, 16, 17, 18, 19, 20, 21, 22, 23, 24, 25] := rfl
@[push_cast] theorem rg27 : List.range 27 = [0, 1, 2, 3, 4, 5, 6, 7, 8, 9, 10, 11, 12, 13, 14, 15, 16, 17, 18, 19, 20, 21, 22, 23, 24, 25, 26] := rfl
@[push_cast] theorem rg28 : List.range 28 = [0, 1, 2, 3, 4, 5, 6, 7, 8, 9, 10, 11, 12, 13, 14, 15, 16, 17, 18, 19, 20, 21, 22, 23, 24, 25, 26, 27] := rfl
@[push_cast] theorem rg29 : List.range 29 = [0, 1, 2, 3, 4, 5, 6, 7, 8, 9, 10, 11, 12, 13, 14, 15, 16, 17, 18, 19, 20, 21, 22, 23, 24, 25, 26, 27, 28] := rfl
@[push_cast] theorem rg30 : List.range 30 = [0, 1, 2, 3, 4, 5, 6, 7, 8, 9, 10, 11, 12, 13, 14, 15, 16, 17, 18, 19, 20, 21, 22, 23, 24, 25, 26, 27, 28, 29] := rfl
@[push_cast] theorem rg31 : List.range 31 = [0, 1, 2, 3, 4, 5, 6, 7, 8, 9, 10, 11, 12, 13, 14, 15, 16, 17, 18, 19, 20, 21, 22, 23, 24, 25, 26, 27, 28, 29, 30] := rfl
@[push_cast] theorem rg32 : List.range 32 = [0, 1, 2, 3, 4, 5, 6, 7, 8, 9, 10, 11, 12, 13, 14, 15, 16, 17, 18, 19, 20, 21, 22, 23, 24, 25, 26, 27, 28, 29, 30, 31] := rfl
@[push_cast] theorem cl2 : callable Try.prog 2 = true := by kernel_rfl
@[push_cast] theorem cl3 : callable Try.prog 3 = true := by kernel_rfl
@[push_cast] theorem cl4 : callable Try.prog 4 = true := by kernel_rfl
@[push_cast] theorem cl5 : callable Try.prog 5 = true := by kernel_rfl
@[push_cast] theorem cl6 : callable Try.prog 6 = true := by kernel_rfl
@[push_cast] theorem cl7 : callable Try.prog 7 = true := by kernel_rfl
@[push_cast] theorem cl8 : callable Try.prog 8 = true := by kernel_rfl
@[push_cast] theorem cl9 : callable Try.prog 9 = true := by kernel_rfl
@[push_cast] theorem cl10 : callable Try.prog 10 = true := by kernel_rfl
@[push_cast] theorem cl11 : callable Try.prog 11 = true := by kernel_rfl
@[push_cast] theorem cl12 : callable Try.prog 12 = true := by kernel_rfl
@[push_cast] theorem cl13 : callable Try.prog 13 = true := by kernel_rfl
@[push_cast] theorem cl14 : callable Try.prog 14 = true := by kernel_rfl
@[push_cast] theorem cl15 : callable Try.prog 15 = true := by kernel_rfl
@[push_cast] theorem cl16 : callable Try.prog 16 = true := by kernel_rfl
@[push_cast] theorem cl17 : callable Try.prog 17 = true := by kernel_rfl
@[push_cast] theorem cl18 : callable Try.prog 18 = true := by kernel_rfl
@[push_cast] theorem cl19 : callable Try.prog 19 = true := by kernel_rfl
@[push_cast] theorem cl20 : callable Try.prog 20 = true := by kernel_rfl
@[push_cast] theorem cl21 : callable Try.prog 21 = true := by kernel_rfl
@[push_cast] theorem cl22 : callable Try.prog 22 = true := by kernel_rfl
@[push_cast] theorem cl23 : callable Try.prog 23 = true := by kernel_rfl
@[push_cast] theorem cl24 : callable Try.prog 24 = true := by kernel_rfl
@[push_cast] theorem cl25 : callable Try.prog 25 = true := by kernel_rfl
@[push_cast] theorem cl26 : callable Try.prog 26 = true := by kernel_rfl
@[push_cast] theorem cl27 : callable Try.prog 27 = true := by kernel_rfl
@[push_cast] theorem cl28 : callable Try.prog 28 = true := by kernel_rfl
@[push_cast] theorem cl29 : callable Try.prog 29 = true := by kernel_rfl
@[push_cast] theorem cl30 : callable Try.prog 30 = true := by kernel_rfl
@[push_cast] theorem cl31 : callable Try.prog 31 = true := by kernel_rfl
@[push_cast] theorem cl32 : callable Try.prog 32 = true := by kernel_rfl
@[push_cast] theorem cl33 : callable Try.prog 33 = true := by kernel_rfl
@[push_cast] theorem cl34 : callable Try.prog 34 = true := by kernel_rfl
@[push_cast] theorem cl35 : callable Try.prog 35 = true := by kernel_rfl
@[push_cast] theorem cl36 : callable Try.prog 36 = true := by kernel_rfl
@[push_cast] theorem cl37 : callable Try.prog 37 = true := by kernel_rfl
@[push_cast] theorem cl38 : callable Try.prog 38 = true := by kernel_rfl
@[push_cast] theorem cl39 : callable Try.prog 39 = true := by kernel_rfl
@[push_cast] theorem cl40 : callable Try.prog 40 = true := by kernel_rfl
@[push_cast] theorem cl41 : callable Try.prog 41 = true := by kernel_rfl
@[push_cast] theorem cl42 : callable Try.prog 42 = true := by kernel_rfl
@[push_cast] theorem cl43 : callable Try.prog 43 = true := by kernel_rfl
@[push_cast] theorem cl44 : callable Try.prog 44 = true := by kernel_rfl
@[push_cast] theorem cl45 : callable Try.prog 45 = true := by kernel_rfl
@[push_cast] theorem cl46 : callable Try.prog 46 = true := by kernel_rfl
@[push_cast] theorem cl47 : callable Try.prog 47 = true := by kernel_rfl
@[push_cast] theorem cl48 : callable Try.prog 48 = true := by kernel_rfl
@[push_cast] theorem cl49 : callable Try.prog 49 = true := by kernel_rfl
@[push_cast] theorem cl50 : callable Try.prog 50 = true := by kernel_rfl
@[push_cast] theorem cl51 : callable Try.prog 51 = true := by kernel_rfl
@[push_cast] theorem cl52 : callable Try.prog 52 = true := by kernel_rfl
@[push_cast] theorem cl53 : callable Try.prog 53 = true := by kernel_rfl
@[push_cast] theorem cl54 : callable Try.prog 54 = true := by kernel_rfl
@[push_cast] theorem cl55 : callable Try.prog 55 = true := by kernel_rfl
@[push_cast] theorem cl56 : callable Try.prog 56 = true := by kernel_rfl
@[push_cast] theorem cl57 : callable Try.prog 57 = true := by kernel_rfl
@[push_cast] theorem cl58 : callable Try.prog 58 = true := by kernel_rfl
@[push_cast] theorem cl59 : callable Try.prog 59 = true := by kernel_rfl
@[push_cast] theorem cl60 : callable Try.prog 60 = true := by kernel_rfl
@[push_cast] theorem cl61 : callable Try.prog 61 = true := by kernel_rfl
@[push_cast] theorem cl62 : callable Try.prog 62 = true := by kernel_rfl
@[push_cast] theorem cl63 : callable Try.prog 63 = true := by kernel_rfl
@[push_cast] theorem cl64 : callable Try.prog 64 = true := by kernel_rfl
@[push_cast] theorem cl65 : callable Try.prog 65 = true := by kernel_rfl
@[push_cast] theorem cl66 : callable Try.prog 66 = true := by kernel_rfl
@[push_cast] theorem cl67 : callable Try.prog 67 = true := by kernel_rfl
@[push_cast] theorem cl68 : callable Try.prog 68 = true := by kernel_rfl
@[push_cast] theorem cl69 : callable Try.prog 69 = true := by kernel_rfl
@[push_cast] theorem cl70 : callable Try.prog 70 = true := by kernel_rfl
@[push_cast] theorem cl71 : callable Try.prog 71 = true := by kernel_rfl
@[push_cast] theorem cl72 : callable Try.prog 72 = true := by kernel_rfl
attribute [push_cast] Try.ntmps2 Try.results2 Try.ntmps3 Try.results3 Try.ntmps4 Try.results4 Try.ntmps5 Try.results5 Try.ntmps6 Try.results6 Try.ntmps7 Try.results7 Try.ntmps8 Try.results8 Try.ntmps9 Try.results9 Try.ntmps10 Try.results10 Try.ntmps11 Try.results11 Try.ntmps12 Try.results12 Try.ntmps13 Try.results13 Try.ntmps14 Try.results14 Try.ntmps15 Try.results15 Try.ntmps16 Try.results16 Try.ntmps17 Try.results17 Try.ntmps18 Try.results18 Try.ntmps19 Try.results19 Try.ntmps20 Try.results20 Try.ntmps21 Try.results21 Try.ntmps22 Try.results22 Try.ntmps23 Try.results23 Try.ntmps24 Try.results24 Try.ntmps25 Try.results25 Try.ntmps26 Try.results26 Try.ntmps27 Try.results27 Try.ntmps28 Try.results28 Try.ntmps29 Try.results29 Try.ntmps30 Try.results30 Try.ntmps31 Try.results31 Try.ntmps32 Try.results32 Try.ntmps33 Try.results33 Try.ntmps34 Try.results34 Try.ntmps35 Try.results35 Try.ntmps36 Try.results36 Try.ntmps37 Try.results37 Try.ntmps38 Try.results38 Try.ntmps39 Try.results39 Try.ntmps40 Try.results40 Try.ntmps41 Try.results41 Try.ntmps42 Try.results42 Try.ntmps43 Try.results43 Try.ntmps44 Try.results44 Try.ntmps45 Try.results45 Try.ntmps46 Try.results46 Try.ntmps47 Try.results47 Try.ntmps48 Try.results48 Try.ntmps49 Try.results49 Try.ntmps50 Try.results50 Try.ntmps51 Try.results51 Try.ntmps52 Try.results52 Try.ntmps53 Try.results53 Try.ntmps54 Try.results54 Try.ntmps55 Try.results55 Try.ntmps56 Try.results56 Try.ntmps57 Try.results57 Try.ntmps58 Try.results58 Try.ntmps59 Try.results59 Try.ntmps60 Try.results60 Try.ntmps61 Try.results61 Try.ntmps62 Try.results62 Try.ntmps63 Try.results63 Try.ntmps64 Try.results64 Try.ntmps65 Try.results65 Try.ntmps66 Try.results66 Try.ntmps67 Try.results67 Try.ntmps68 Try.results68 Try.ntmps69 Try.results69 Try.ntmps70 Try.results70 Try.ntmps71 Try.results71 Try.ntmps72 Try.results72
end Go.Proofs.Ytmcedkcehcacpaa.Facts

/- pad: contracts. -/
set_option linter.unusedVariables false
set_option linter.unusedSimpArgs false
namespace Go.Abs

def gapN (n : Nat) : Nat := (4 - n % 4) % 4
def upN (n : Nat) : Nat := n + gapN n

theorem gap_val (n : Nat) (h : n < 2 ^ 62) : bitsV .and .i64 (IntKind.i64.wrap (0 - N n)) 3 = N (gapN n) := by
  unfold N
  have hw : IntKind.i64.wrap (0 - (n : Int)) = -(n : Int) := by rw [IntKind.wrap_i64]; omega
  rw [hw]
  have h3 : BitVec.ofInt 64 3 = 3#64 := rfl
  have hx : (BitVec.ofInt 64 (-(n : Int)) &&& 3#64).toNat = gapN n := by
    rw [BitVec.toNat_and]
    have : (3#64).toNat = 2 ^ 2 - 1 := rfl
    rw [this, Nat.and_two_pow_sub_one_eq_mod, BitVec.toNat_ofInt]
    unfold gapN
    omega
  show IntKind.i64.wrap ((BitVec.ofInt 64 (-(n : Int)) &&& BitVec.ofInt 64 3).toNat : Nat) = _
  rw [h3, hx, IntKind.wrap_i64]
  unfold gapN
  omega

theorem w64 {a : Int} (h0 : -2 ^ 63 ≤ a) (h : a < 2 ^ 63) : IntKind.i64.wrap a = a := by rw [IntKind.wrap_i64]; omega
theorem gapN_le (n : Nat) : gapN n ≤ 3 := by unfold gapN; omega

/-- a number -/
abbrev nat (n : Nat) : AV := .val (.int .i64 (N n))

attribute [push_cast] nat

/-- the sum, as Sizes has it -/
def sumUp (s : Nat) : List Nat → Nat
  | [] => s
  | n :: l => sumUp (upN s + n) l

theorem le_sumUp : ∀ (l : List Nat) (s : Nat), s ≤ sumUp s l
  | [], s => Nat.le_refl s
  | n :: l, s => by have := le_sumUp l (upN s + n); simp only [sumUp, upN] at *; omega

theorem sumUp_append (n : Nat) : ∀ (l : List Nat) (s : Nat), sumUp s (l ++ [n]) = upN (sumUp s l) + n
  | [], s => rfl
  | m :: l, s => sumUp_append n l _

theorem sumUp_take : ∀ (l : List Nat) (i : Nat) {s : Nat}, sumUp s (l.take i) ≤ sumUp s l
  | [], i, s => by simp
  | n :: l, 0, s => by simpa [sumUp] using le_sumUp (n :: l) s
  | n :: l, i + 1, s => by simp only [List.take_succ_cons, sumUp]; exact sumUp_take l i

def nats (l : List Nat) : List AV := l.map nat
@[push_cast] theorem nats_hand (ids : List Nat) (l : List Nat) : AV.handL ids (nats l) = nats l := by
  rw [AV.handL_map]; simp [nats, AV.hand]
@[push_cast] theorem nats_len (l : List Nat) : (nats l).length = l.length := by simp [nats]
theorem nats_get (l : List Nat) (i : Nat) : (nats l)[i]? = l[i]?.map nat := by simp [nats]
@[push_cast] theorem nats_pl (l : List Nat) : AV.plL (nats l) = true := by
  rw [AV.plL_iff]; intro x hx; simp only [nats, List.mem_map] at hx; obtain ⟨b, _, rfl⟩ := hx; rfl
@[push_cast] theorem nats_ids (p : Nat → Bool) (l : List Nat) : AV.idsOkL p (nats l) = true := by
  rw [AV.idsOkL_iff]; intro x hx; simp only [nats, List.mem_map] at hx; obtain ⟨b, _, rfl⟩ := hx; rfl
end Go.Abs

namespace Go.Proofs.Ytmcedkcehcacpaa.C
open Go.Abs

theorem pad_gap (n : Nat) (h : n < 2 ^ 62) : PC Try.prog 72 [nat n] (nat (gapN n)) := by
  refine PC.of_bodyW (by simp only [push_cast]) Try.func72 rfl (by rw [Try.ntmps72]; simp) ?_
  refine AWp.regionW ?_
  refine AWp.regionW ?_
  refine AWp.ret ?_
  try simp only [thenQ, blockQ]
  refine bodyQ.m ?_
  rw [gap_val n h]
  first | done | exact Hand.go

theorem pad_up (n : Nat) (h : n < 2 ^ 62) : PC Try.prog 71 [nat n] (nat (upN n)) := by
  have hg := gapN_le n
  refine PC.of_bodyW (by simp only [push_cast]) Try.func71 rfl (by rw [Try.ntmps71]; simp) ?_
  refine AWp.regionW ?_
  refine AWp.regionM fun K1 hK1 => ?_
  refine ARun2.callM (pad_gap n h) ?_
  refine ARun2.endm (hK1 _ ?_)
  refine AWp.ret ?_
  try simp only [thenQ, blockQ]
  refine bodyQ.m ?_
  clear hK1 K1
  rw [upN]
  first | done | exact Hand.go

theorem pad_sizes1 (m n : Nat) (h : m < 2 ^ 61) (h2 : n < 2 ^ 61) : OC Try.prog 70 [nat n, .ptr 0 0] [.box 3 [nat m]] (.tup []) [.box 3 [nat (upN m + n)]] := by
  have hg := gapN_le m
  have hu : upN m < 2 ^ 62 := by unfold upN; omega
  refine OC.of_body [0] (by intro k hk; simp at hk; subst hk; rfl) Try.func70 rfl (by rw [Try.ntmps70]; simp) ?_
  refine AWp.regionN fun K1 hK1 => ?_
  refine ARun2.callM (pad_up m (by omega)) ?_
  refine ARun2.endm (hK1 _ ?_)
  try simp only [thenQ, blockQ]
  refine bodyQ.n ?_
  clear hK1 K1
  refine endO.m ?_ ?_
  · rfl
  · skip
    first | done | exact Hand.go

theorem pad_sizes (l : List Nat) (h : sumUp 0 l < 2 ^ 61) (hl : l.length < 2 ^ 61) : PC Try.prog 68 [.sl false 1 (nats l)] (nat (sumUp 0 l)) := by
  refine PC.of_bodyW (by simp only [push_cast]) Try.func68 rfl (by rw [Try.ntmps68]; simp) ?_
  refine AWp.regionW ?_
  refine AWp.regionW ?_
  refine AWp.regionW ?_
  refine AWp.seqK fun K1 hK1 => ?_
  refine AWp.regionW ?_
  refine AWp.block ?_
  refine AWp.loopK [3, 4, 8, 9] (fun (i : Nat) => [(10, nat i)]) (fun i => [.box 3 [nat (sumUp 0 (l.take i))]]) (fun i => i ≤ l.length) (fun i => l.length - i) (0) ?_ (Nat.zero_le _) ?_
  · skip
    refine Le.m 1 ?_ ?_
    · first | with_reducible rfl | (simp only [push_cast, reduceIte, Nat.reduceEqDiff, Nat.reduceLT, Nat.reduceAdd, Nat.reduceSub, Nat.reduceMul, Nat.reduceLeDiff, Nat.reducePow, Int.reduceLT, Int.reduceToNat, reduceCtorEq, Int.reduceNeg, Int.reduceEq, Nat.reduceBEq, Nat.reduceBNe, Int.reduceBEq, Int.reduceBNe, String.reduceEq]; first | done | rfl | (simp (disch := omega) only [w_nat, w_add, w_addl, w_addr, w_sub, w_subl, w_mul, w_mull, w_mulr, w_u32, w_u16, w_u8, w_u32a, N_zero]; first | done | rfl))
    · first | (simp only [push_cast, reduceIte, Nat.reduceEqDiff, Nat.reduceLT, Nat.reduceAdd, Nat.reduceSub, Nat.reduceMul, Nat.reduceLeDiff, Nat.reducePow, Int.reduceLT, Int.reduceToNat, reduceCtorEq, Int.reduceNeg, Int.reduceEq, Nat.reduceBEq, Nat.reduceBNe, Int.reduceBEq, Int.reduceBNe, String.reduceEq]; first | done | rfl | (simp (disch := omega) only [w_nat, w_add, w_addl, w_addr, w_sub, w_subl, w_mul, w_mull, w_mulr, w_u32, w_u16, w_u8, w_u32a, N_zero]; first | done | rfl))
  · intro i hi K2 hK2
    refine AWp.regionW ?_
    refine AWp.seqK fun K3 hK3 => ?_
    refine AWp.condLM (fun c0 => ?_) (fun c0 => ?_)
    · skip
      have hil : i < l.length := by simpa using c0
      have hs : sumUp 0 (l.take (i + 1)) = upN (sumUp 0 (l.take i)) + l[i] := by rw [List.take_succ_eq_append_getElem hil, sumUp_append]
      have hle : sumUp 0 (l.take (i + 1)) ≤ sumUp 0 l := sumUp_take l (i + 1)
      refine AWp.skip ?_
      refine hK3 _ ?_
      refine AWp.seqK fun K4 hK4 => ?_
      refine AWp.block ?_
      refine AWp.regionM fun K5 hK5 => ?_
      refine ARun2.indexM (i) (nat l[i]) ?_ ?_
      · rw [nats_get, List.getElem?_eq_getElem hil]; rfl
      refine ARun2.endm (hK5 _ ?_)
      refine AWp.regionN fun K6 hK6 => ?_
      refine ARun2.callOM [0] (pad_sizes1 (sumUp 0 (l.take i)) l[i] (by simp only [upN] at hs; omega) (by omega)) ?_
      refine ARun2.endm (hK6 _ ?_)
      refine hK4 _ ?_
      refine AWp.regionV ?_
      refine hK2 _ (i + 1) (by omega) (by omega) ?_
      refine Le.m 1 ?_ ?_
      · try simp only [push_cast, reduceIte, Nat.reduceEqDiff, Nat.reduceLT, Nat.reduceAdd, Nat.reduceSub, Nat.reduceMul, Nat.reduceLeDiff, Nat.reducePow, Int.reduceLT, Int.reduceToNat, reduceCtorEq, Int.reduceNeg, Int.reduceEq, Nat.reduceBEq, Nat.reduceBNe, Int.reduceBEq, Int.reduceBNe, String.reduceEq]
        try simp (disch := omega) only [w_nat, w_add, w_addl, w_addr, w_sub, w_subl, w_mul, w_mull, w_mulr, w_u32, w_u16, w_u8, w_u32a, N_zero]
        first | done | skip
        rw [hs]
      · first | (simp only [push_cast, reduceIte, Nat.reduceEqDiff, Nat.reduceLT, Nat.reduceAdd, Nat.reduceSub, Nat.reduceMul, Nat.reduceLeDiff, Nat.reducePow, Int.reduceLT, Int.reduceToNat, reduceCtorEq, Int.reduceNeg, Int.reduceEq, Nat.reduceBEq, Nat.reduceBNe, Int.reduceBEq, Int.reduceBNe, String.reduceEq]; first | done | rfl | (simp (disch := omega) only [w_nat, w_add, w_addl, w_addr, w_sub, w_subl, w_mul, w_mull, w_mulr, w_u32, w_u16, w_u8, w_u32a, N_zero]; first | done | rfl))
    · skip
      have hie : i = l.length := by simp at c0; omega
      subst hie
      refine AWp.exit ?_
      simp only [thenQ, blockQ, reduceIte, Nat.reduceEqDiff]
      refine hK1 _ ?_
      refine AWp.regionW ?_
      refine AWp.ret ?_
      try simp only [thenQ, blockQ]
      refine bodyQ.m ?_
      clear hK3 K3 hK2 K2 hK1 K1
      rw [List.take_length]
      first | done | exact Hand.go
end Go.Proofs.Ytmcedkcehcacpaa.C

/- wire: contracts. -/
set_option linter.unusedVariables false
set_option linter.unusedSimpArgs false
namespace Go.Proofs.Ytmcedkcehcacpaa.C
open Go.Abs

theorem wire_right (k : Nat) : PC Try.prog 41 [nat k] (.val (.bool (k == 1 || k == 2 || k == 4))) := by
  refine PC.of_bodyW (by simp only [push_cast]) Try.func41 rfl (by rw [Try.ntmps41]; simp) ?_
  refine AWp.regionW ?_
  refine AWp.regionA fun K1 hK1 => ?_
  refine ARun.segm 3 fun KS hKS => ?_
  refine ARun2.endm (hKS _ ?_); clear hKS KS
  apply ARun.grpM 2 2 false 7 [0, 5]
  · intro g2 KG hKG
    refine ARun2.gom ?_
    exact ARun2.endm (hKG _ Le.grpM)
  refine ARun.segm 2 fun KS hKS => ?_
  refine ARun2.endm (hKS _ ?_); clear hKS KS
  apply ARun.grpM 2 6 false 11 [9]
  · intro g6 KG hKG
    refine ARun2.gom ?_
    exact ARun2.endm (hKG _ Le.grpM)
  refine ARun2.gom ?_
  refine ARun2.endm (hK1 _ ?_)
  refine AWp.ret ?_
  try simp only [thenQ, blockQ]
  refine bodyQ.m ?_
  clear hK1 K1
  simp only [Bool.or_assoc]
  first | done | exact Hand.go

/-- the bytes of a number, the greatest first -/
def putB (k : Nat) (x : Nat) : List UInt8 := (List.range k).reverse.map fun i => UInt8.ofNat (x / 256 ^ i)

theorem putB_len (k x : Nat) : (putB k x).length = k := by simp [putB]
theorem putB_take (k x j : Nat) (hj : j < k) : (putB k x).take (k - j) = (putB k x).take (k - (j + 1)) ++ [UInt8.ofNat (x / 256 ^ j)] := by
  have hlt : k - (j + 1) < (putB k x).length := by rw [putB_len]; omega
  rw [show k - j = (k - (j + 1)) + 1 by omega, List.take_succ_eq_append_getElem hlt]
  congr 2
  simp only [putB, List.getElem_map, List.getElem_reverse, List.getElem_range, List.length_range]
  rw [show k - 1 - (k - (j + 1)) = j by omega]

theorem put_byte (x j : Nat) (hj : j < 4) : IntKind.u8.wrap ((N x).fdiv (2 ^ min (8 * j) IntKind.u32.bits)) = N (UInt8.ofNat (x / 256 ^ j)).toNat := by
  have h2 : IntKind.u32.bits = 32 := rfl
  unfold N
  rw [h2, Nat.min_eq_left (by omega), IntKind.wrap_u8]
  have h3 : (2 : Int) ^ (8 * j) = ((256 ^ j : Nat) : Int) := by
    rw [show (256 : Nat) = 2 ^ 8 from rfl, ← Nat.pow_mul]
    simp
  rw [h3]
  have h4 : (x : Int).fdiv ((256 ^ j : Nat) : Int) = ((x / 256 ^ j : Nat) : Int) := by
    rw [Int.fdiv_eq_ediv_of_nonneg _ (Int.natCast_nonneg _)]; rfl
  rw [h4]
  simp [UInt8.toNat_ofNat']

theorem flat_len2 (k : Nat) (l : List Nat) : (l.flatMap (putB k)).length = l.length * k := by
  induction l with
  | nil => simp
  | cons x l ih => rw [List.flatMap_cons, List.length_append, putB_len, ih, List.length_cons, Nat.add_mul]; omega
theorem bys_snoc (l : List UInt8) (b : UInt8) : bys l ++ [.val (.int .u8 (N b.toNat))] = bys (l ++ [b]) := by simp [bys]

abbrev u32 (n : Nat) : AV := .val (.int .u32 (N n))
attribute [push_cast] u32
def u32s (l : List Nat) : List AV := l.map u32
@[push_cast] theorem u32s_hand (ids : List Nat) (l : List Nat) : AV.handL ids (u32s l) = u32s l := by
  rw [AV.handL_map]; simp [u32s, AV.hand]
@[push_cast] theorem u32s_len (l : List Nat) : (u32s l).length = l.length := by simp [u32s]
theorem u32s_get (l : List Nat) (i : Nat) : (u32s l)[i]? = l[i]?.map u32 := by simp [u32s]
@[push_cast] theorem u32s_pl (l : List Nat) : AV.plL (u32s l) = true := by
  rw [AV.plL_iff]; intro x hx; simp only [u32s, List.mem_map] at hx; obtain ⟨b, _, rfl⟩ := hx; rfl
@[push_cast] theorem u32s_ids (p : Nat → Bool) (l : List Nat) : AV.idsOkL p (u32s l) = true := by
  rw [AV.idsOkL_iff]; intro x hx; simp only [u32s, List.mem_map] at hx; obtain ⟨b, _, rfl⟩ := hx; rfl

theorem N_pred (j : Nat) : N (j + 1) - 1 = N j := by unfold N; omega
theorem N_pred0 (k : Nat) (h : 1 ≤ k) : N (k - 1) = N k - 1 := by unfold N; omega
theorem N_ge (j : Nat) : (0 ≤ N j - 1) = (1 ≤ j) := by rw [eq_iff_iff]; unfold N; omega

theorem wire_put (k : Nat) (l : List Nat) (hk : k = 1 ∨ k = 2 ∨ k = 4) (hl : ∀ x ∈ l, x < 2 ^ 32) (hn : l.length ≤ 2 ^ 30) :
    PC Try.prog 27 [nat k, .sl false 1 (u32s l)] (.sl true 1 (bys (l.flatMap (putB k)))) := by
  have hr : (k == 1 || k == 2 || k == 4) = true := by rcases hk with rfl | rfl | rfl <;> rfl
  refine PC.of_body (by simp only [push_cast]) Try.func27 rfl (by rw [Try.ntmps27]; simp) ?_
  refine AWp.regionW ?_
  refine AWp.seqK fun K1 hK1 => ?_
  refine AWp.regionM fun K2 hK2 => ?_
  refine ARun2.callM (wire_right k) ?_
  refine ARun2.endm (hK2 _ ?_)
  refine AWp.condF ?_ (by simp only [push_cast, reduceIte, Nat.reduceEqDiff, Nat.reduceLT, Nat.reduceAdd, Nat.reduceSub, Nat.reduceMul, Nat.reduceLeDiff, Nat.reducePow, Int.reduceLT, Int.reduceToNat, reduceCtorEq, Int.reduceNeg, Int.reduceEq, Nat.reduceBEq, Nat.reduceBNe, Int.reduceBEq, Int.reduceBNe, String.reduceEq, hr])
  refine AWp.skip ?_
  refine hK1 _ ?_
  refine AWp.regionW ?_
  refine AWp.seqK fun K3 hK3 => ?_
  refine AWp.regionW ?_
  refine AWp.block ?_
  -- SLOTS THAT TURN AND ARE NOT TOLD: [5]
  refine AWp.nilOwn 5 5 1 (by simp only [push_cast, reduceIte, Nat.reduceEqDiff, Nat.reduceLT, Nat.reduceAdd, Nat.reduceSub, Nat.reduceMul, Nat.reduceLeDiff, Nat.reducePow, Int.reduceLT, Int.reduceToNat, reduceCtorEq, Int.reduceNeg, Int.reduceEq, Nat.reduceBEq, Nat.reduceBNe, Int.reduceBEq, Int.reduceBNe, String.reduceEq]) ?_
  simp only [push_cast, reduceIte, Nat.reduceEqDiff, Nat.reduceLT, Nat.reduceAdd, Nat.reduceSub, Nat.reduceMul, Nat.reduceLeDiff, Nat.reducePow, Int.reduceLT, Int.reduceToNat, reduceCtorEq, Int.reduceNeg, Int.reduceEq, Nat.reduceBEq, Nat.reduceBNe, Int.reduceBEq, Int.reduceBNe, String.reduceEq]
  refine AWp.loopK [0, 5, 12, 13] (fun (i : Nat) => [(14, nat i)]) (fun i => [.row 5 1 (bys ((l.take i).flatMap (putB k)))]) (fun i => i ≤ l.length) (fun i => l.length - i) (0) ?_ (Nat.zero_le _) ?_
  · skip
    refine Le.m 1 ?_ ?_
    · first | with_reducible rfl | (simp only [push_cast, reduceIte, Nat.reduceEqDiff, Nat.reduceLT, Nat.reduceAdd, Nat.reduceSub, Nat.reduceMul, Nat.reduceLeDiff, Nat.reducePow, Int.reduceLT, Int.reduceToNat, reduceCtorEq, Int.reduceNeg, Int.reduceEq, Nat.reduceBEq, Nat.reduceBNe, Int.reduceBEq, Int.reduceBNe, String.reduceEq]; first | done | rfl | (simp (disch := omega) only [w_nat, w_add, w_addl, w_addr, w_sub, w_subl, w_mul, w_mull, w_mulr, w_u32, w_u16, w_u8, w_u32a, N_zero]; first | done | rfl))
    · first | (simp only [push_cast, reduceIte, Nat.reduceEqDiff, Nat.reduceLT, Nat.reduceAdd, Nat.reduceSub, Nat.reduceMul, Nat.reduceLeDiff, Nat.reducePow, Int.reduceLT, Int.reduceToNat, reduceCtorEq, Int.reduceNeg, Int.reduceEq, Nat.reduceBEq, Nat.reduceBNe, Int.reduceBEq, Int.reduceBNe, String.reduceEq]; first | done | rfl | (simp (disch := omega) only [w_nat, w_add, w_addl, w_addr, w_sub, w_subl, w_mul, w_mull, w_mulr, w_u32, w_u16, w_u8, w_u32a, N_zero]; first | done | rfl))
  · intro i hi K4 hK4
    refine AWp.regionW ?_
    refine AWp.seqK fun K5 hK5 => ?_
    refine AWp.condLM (fun c1 => ?_) (fun c1 => ?_)
    · skip
      have hil : i < l.length := by simpa using c1
      have hx32 := hl l[i] (List.getElem_mem hil)
      generalize hxe : l[i] = x at hx32
      refine AWp.skip ?_
      refine hK5 _ ?_
      refine AWp.seqK fun K6 hK6 => ?_
      refine AWp.block ?_
      refine AWp.regionM fun K7 hK7 => ?_
      refine ARun2.indexM (i) (u32 x) ?_ ?_
      · rw [u32s_get, List.getElem?_eq_getElem hil, hxe]; rfl
      refine ARun2.endm (hK7 _ ?_)
      refine AWp.regionW ?_
      refine AWp.block ?_
      -- SLOTS THAT TURN AND ARE NOT TOLD: [5]
      refine AWp.loopK [0, 5, 7, 12, 13, 14] (fun (j : Nat) => [(8, .val (.int .i64 (N j - 1)))]) (fun j => [.row 5 1 (bys ((l.take i).flatMap (putB k) ++ (putB k x).take (k - j)))]) (fun j => j ≤ k) (fun j => j) (k) ?_ (Nat.le_refl _) ?_
      · skip
        refine Le.m 1 ?_ ?_
        · try simp only [push_cast, reduceIte, Nat.reduceEqDiff, Nat.reduceLT, Nat.reduceAdd, Nat.reduceSub, Nat.reduceMul, Nat.reduceLeDiff, Nat.reducePow, Int.reduceLT, Int.reduceToNat, reduceCtorEq, Int.reduceNeg, Int.reduceEq, Nat.reduceBEq, Nat.reduceBNe, Int.reduceBEq, Int.reduceBNe, String.reduceEq]
          try simp (disch := omega) only [w_nat, w_add, w_addl, w_addr, w_sub, w_subl, w_mul, w_mull, w_mulr, w_u32, w_u16, w_u8, w_u32a, N_zero]
          first | done | skip
          simp
        · simp only [push_cast, reduceIte, Nat.reduceEqDiff, Nat.reduceLT, Nat.reduceAdd, Nat.reduceSub, Nat.reduceMul, Nat.reduceLeDiff, Nat.reducePow, Int.reduceLT, Int.reduceToNat, reduceCtorEq, Int.reduceNeg, Int.reduceEq, Nat.reduceBEq, Nat.reduceBNe, Int.reduceBEq, Int.reduceBNe, String.reduceEq]
          try simp (disch := omega) only [w_nat, w_add, w_addl, w_addr, w_sub, w_subl, w_mul, w_mull, w_mulr, w_u32, w_u16, w_u8, w_u32a, N_zero]
          simp only [N_pred0 k (by omega)]
      · intro j hj K8 hK8
        refine AWp.seqK fun K9 hK9 => ?_
        refine AWp.regionW ?_
        refine AWp.condLM (fun c2 => ?_) (fun c2 => ?_)
        · skip
          have hj1 : 1 ≤ j := by have h := of_decide_eq_true c2; rwa [N_ge] at h
          obtain ⟨j, rfl⟩ : ∃ j', j = j' + 1 := ⟨j - 1, by omega⟩
          simp only [N_pred]
          refine AWp.skip ?_
          refine hK9 _ ?_
          refine AWp.seqK fun K10 hK10 => ?_
          refine AWp.block ?_
          refine AWp.regionN fun K11 hK11 => ?_
          rw [put_byte x j (by omega)]
          have hlen : ((l.take i).flatMap (putB k) ++ (putB k x).take (k - (j + 1))).length ≤ 2 ^ 33 := by
            rw [List.length_append, flat_len2, List.length_take, List.length_take, putB_len]
            have : min i l.length * k ≤ 2 ^ 30 * 4 := Nat.mul_le_mul (by omega) (by omega)
            omega
          refine ARun2.appendM ?_ ?_ ?_
          · rw [Ytmcedkcehcacpaa.Facts.eb25, bys_len, List.length_cons, List.length_nil]; omega
          · rw [bys_len, List.length_cons, List.length_nil]; omega
          refine ARun2.endm (hK11 _ ?_)
          refine hK10 _ ?_
          refine AWp.regionV ?_
          refine hK8 _ (j) (by omega) (by omega) ?_
          refine Le.m 1 ?_ ?_
          · try simp only [push_cast, reduceIte, Nat.reduceEqDiff, Nat.reduceLT, Nat.reduceAdd, Nat.reduceSub, Nat.reduceMul, Nat.reduceLeDiff, Nat.reducePow, Int.reduceLT, Int.reduceToNat, reduceCtorEq, Int.reduceNeg, Int.reduceEq, Nat.reduceBEq, Nat.reduceBNe, Int.reduceBEq, Int.reduceBNe, String.reduceEq]
            try simp (disch := omega) only [w_nat, w_add, w_addl, w_addr, w_sub, w_subl, w_mul, w_mull, w_mulr, w_u32, w_u16, w_u8, w_u32a, N_zero]
            first | done | skip
            rw [putB_take k x j (by omega), ← List.append_assoc, ← bys_snoc]
          · simp only [push_cast, reduceIte, Nat.reduceEqDiff, Nat.reduceLT, Nat.reduceAdd, Nat.reduceSub, Nat.reduceMul, Nat.reduceLeDiff, Nat.reducePow, Int.reduceLT, Int.reduceToNat, reduceCtorEq, Int.reduceNeg, Int.reduceEq, Nat.reduceBEq, Nat.reduceBNe, Int.reduceBEq, Int.reduceBNe, String.reduceEq]
            try simp (disch := omega) only [w_nat, w_add, w_addl, w_addr, w_sub, w_subl, w_mul, w_mull, w_mulr, w_u32, w_u16, w_u8, w_u32a, N_zero]
            rw [show IntKind.i64.wrap (N j - 1) = N j - 1 from w64 (by unfold N; omega) (by unfold N; omega)]
        · skip
          have hj0 : j = 0 := by have h := of_decide_eq_false c2; rw [N_ge] at h; omega
          subst hj0
          refine AWp.exit ?_
          simp only [thenQ, blockQ, reduceIte, Nat.reduceEqDiff]
          refine hK6 _ ?_
          refine AWp.regionV ?_
          refine hK4 _ (i + 1) (by omega) (by omega) ?_
          refine Le.m 1 ?_ ?_
          · try simp only [push_cast, reduceIte, Nat.reduceEqDiff, Nat.reduceLT, Nat.reduceAdd, Nat.reduceSub, Nat.reduceMul, Nat.reduceLeDiff, Nat.reducePow, Int.reduceLT, Int.reduceToNat, reduceCtorEq, Int.reduceNeg, Int.reduceEq, Nat.reduceBEq, Nat.reduceBNe, Int.reduceBEq, Int.reduceBNe, String.reduceEq]
            try simp (disch := omega) only [w_nat, w_add, w_addl, w_addr, w_sub, w_subl, w_mul, w_mull, w_mulr, w_u32, w_u16, w_u8, w_u32a, N_zero]
            first | done | skip
            have hfull : (putB k x).take k = putB k x := List.take_of_length_le (by rw [putB_len]; exact Nat.le_refl _)
            rw [List.take_succ_eq_append_getElem hil, List.flatMap_append, hxe, Nat.sub_zero, hfull]; simp
          · first | (simp only [push_cast, reduceIte, Nat.reduceEqDiff, Nat.reduceLT, Nat.reduceAdd, Nat.reduceSub, Nat.reduceMul, Nat.reduceLeDiff, Nat.reducePow, Int.reduceLT, Int.reduceToNat, reduceCtorEq, Int.reduceNeg, Int.reduceEq, Nat.reduceBEq, Nat.reduceBNe, Int.reduceBEq, Int.reduceBNe, String.reduceEq]; first | done | rfl | (simp (disch := omega) only [w_nat, w_add, w_addl, w_addr, w_sub, w_subl, w_mul, w_mull, w_mulr, w_u32, w_u16, w_u8, w_u32a, N_zero]; first | done | rfl))
    · skip
      have hil : i = l.length := by simp at c1; omega
      subst hil
      refine AWp.exit ?_
      simp only [thenQ, blockQ, reduceIte, Nat.reduceEqDiff]
      refine hK3 _ ?_
      refine AWp.regionW ?_
      refine AWp.pub 0 rfl (Nat.le_refl _) ?_
      simp only [push_cast, reduceIte, Nat.reduceEqDiff, Nat.reduceLT, Nat.reduceAdd, Nat.reduceSub, Nat.reduceMul, Nat.reduceLeDiff, Nat.reducePow, Int.reduceLT, Int.reduceToNat, reduceCtorEq, Int.reduceNeg, Int.reduceEq, Nat.reduceBEq, Nat.reduceBNe, Int.reduceBEq, Int.reduceBNe, String.reduceEq]
      rw [List.take_length]
      refine AWp.ret ?_
      try simp only [thenQ, blockQ]
      refine bodyQ.m ?_
      clear hK5 K5 hK4 K4 hK3 K3 hK2 K2 hK1 K1
      rfl
end Go.Proofs.Ytmcedkcehcacpaa.C

/- wire: iterators. -/
set_option linter.unusedVariables false
set_option linter.unusedSimpArgs false
namespace Go.Proofs.Ytmcedkcehcacpaa.C
open Go.Abs

def cdiv (n k : Nat) : Nat := (n + k - 1) / k
def chunks (k : Nat) (l : List UInt8) : List (List UInt8) := (List.range (cdiv l.length k)).map fun i => (l.drop (i * k)).take k
def chunkYs (k : Nat) (l : List UInt8) : List (List AV) := (chunks k l).map fun c => [.sl false 1 (bys c)]

theorem cdiv_lt {n k i : Nat} (hk : 0 < k) : i < cdiv n k ↔ i * k < n := by
  unfold cdiv
  rw [Nat.lt_div_iff_mul_lt hk]
  constructor <;> intro h <;> omega

theorem chunk_eq (k : Nat) (l : List UInt8) (i : Nat) : (l.take (i * k + min k (l.length - i * k))).drop (i * k) = (l.drop (i * k)).take k := by
  rw [List.drop_take, Nat.add_sub_cancel_left, ← List.length_drop]
  rcases Nat.le_total k (l.drop (i * k)).length with h | h
  · rw [Nat.min_eq_left h]
  · rw [Nat.min_eq_right h, List.take_of_length_le (Nat.le_refl _), List.take_of_length_le h]

theorem chunkYs_get {k : Nat} {l : List UInt8} {i : Nat} (h : i < cdiv l.length k) : (chunkYs k l)[i]? = some [.sl false 1 (bys ((l.drop (i * k)).take k))] := by
  simp [chunkYs, chunks, h]

theorem chunkYs_split {k : Nat} {l : List UInt8} {i : Nat} (h : i < cdiv l.length k) : chunkYs k l = (chunkYs k l).take i ++ [.sl false 1 (bys ((l.drop (i * k)).take k))] :: (chunkYs k l).drop (i + 1) := by
  obtain ⟨h1, h2⟩ := List.getElem?_eq_some_iff.1 (chunkYs_get h)
  rw [← h2, ← List.drop_eq_getElem_cons h1, List.take_append_drop]

theorem chunk_iter (k : Nat) (l : List UInt8) (hk0 : 0 < k) (hk : k ≤ 2 ^ 60) (hl : l.length ≤ 2 ^ 40) :
    IterC Try.prog 61 [.ref false (.agg [.sl false 1 (bys l)]), .ref false (.agg [nat k])] (chunkYs k l) := by
  refine IterC.of_body Try.func61 rfl (by rw [Try.ntmps61]; simp) fun lb => ?_
  refine AWp.regionW ?_
  refine AWp.block ?_
  refine AWp.loopKT [0, 1, 2] (fun (i : Nat) => [(4, nat (i * k))]) (fun i => []) (fun i => (chunkYs k l).take i) (fun i => i ≤ cdiv l.length k) (fun i => cdiv l.length k - i) (0) ?_ (Nat.zero_le _) ?_
  · skip
    refine Le.m 0 ?_ ?_ ?_
    · first | with_reducible rfl | (simp only [push_cast, reduceIte, Nat.reduceEqDiff, Nat.reduceLT, Nat.reduceAdd, Nat.reduceSub, Nat.reduceMul, Nat.reduceLeDiff, Nat.reducePow, Int.reduceLT, Int.reduceToNat, reduceCtorEq, Int.reduceNeg, Int.reduceEq, Nat.reduceBEq, Nat.reduceBNe, Int.reduceBEq, Int.reduceBNe, String.reduceEq]; first | done | rfl | (simp (disch := omega) only [w_nat, w_add, w_addl, w_addr, w_sub, w_subl, w_mul, w_mull, w_mulr, w_u32, w_u16, w_u8, w_u32a, N_zero]; first | done | rfl))
    · simp only [push_cast, reduceIte, Nat.reduceEqDiff, Nat.reduceLT, Nat.reduceAdd, Nat.reduceSub, Nat.reduceMul, Nat.reduceLeDiff, Nat.reducePow, Int.reduceLT, Int.reduceToNat, reduceCtorEq, Int.reduceNeg, Int.reduceEq, Nat.reduceBEq, Nat.reduceBNe, Int.reduceBEq, Int.reduceBNe, String.reduceEq]
      try simp (disch := omega) only [w_nat, w_add, w_addl, w_addr, w_sub, w_subl, w_mul, w_mull, w_mulr, w_u32, w_u16, w_u8, w_u32a, N_zero]
      simp only [Nat.zero_mul]; rfl
    · exact ⟨rfl, rfl, rfl, rfl, by simp, rfl⟩
  · intro i hi K1 hK1
    refine AWp.seqK fun K2 hK2 => ?_
    refine AWp.regionW ?_
    refine AWp.condLM (fun c0 => ?_) (fun c0 => ?_)
    · skip
      have hil : i * k < l.length := of_decide_eq_true c0
      have hi' : i < cdiv l.length k := (cdiv_lt hk0).2 hil
      refine AWp.skip ?_
      refine hK2 _ ?_
      refine AWp.seqK fun K3 hK3 => ?_
      refine AWp.block ?_
      refine AWp.drS [[(2, none)], [(1, none)], [(4, none)], [(14, some 1), (15, some 2)], [(16, some 3)], [(13, some 0), (17, some 4)], [(18, some 5)]] fun G hG => ?_
      refine Dr.sim ?_
      try simp only [List.cons_append, List.nil_append]
      refine Dr.sim ?_
      try simp only [List.cons_append, List.nil_append]
      refine Dr.sim ?_
      try simp only [List.cons_append, List.nil_append]
      refine Dr.sliceLo (i * k) ?_ ?_
      · rw [bys_len]; omega
      try simp only [List.cons_append, List.nil_append]
      refine Dr.sim ?_
      try simp only [List.cons_append, List.nil_append]
      refine Dr.imin ?_
      try simp only [List.cons_append, List.nil_append]
      refine Dr.sim ?_
      try simp only [List.cons_append, List.nil_append]
      refine Dr.finM (n := 7) [(5, 6)] [0, 1, 2, 4] hG Ytmcedkcehcacpaa.Facts.mixed fun KD hKD => ?_
      refine ARun2.endm (hKD _ ?_); clear hKD KD hG G
      refine AWp.regionM fun K4 hK4 => ?_
      refine ARun2.slice3M (i * k) (i * k + min k (l.length - i * k)) ?_ ?_ ?_
      · omega
      · rw [bys_len]; omega
      rw [chunk_eq k l i]
      refine ARun2.yieldM (x := [.sl false 1 (bys ((l.drop (i * k)).take k))]) ((chunkYs k l).drop (i + 1)) (chunkYs_split hi') fun b => ?_
      refine ARun2.endm (hK4 _ ?_)
      refine AWp.condLM (fun c1 => ?_) (fun c1 => ?_)
      · skip
        have hb : b = false := by simpa using c1
        subst hb
        refine AWp.ret ?_
        try simp only [thenQ, blockQ]
        refine bodyQ.m ?_
        clear hK4 K4 hK3 K3 hK2 K2 hK1 K1
        exact ⟨fun h => (by cases h), fun _ => ⟨(chunkYs k l).drop (i + 1), (chunkYs_split hi').trans (by simp [AS.lit])⟩⟩
      · skip
        have hb : b = true := by simpa using c1
        subst hb
        refine AWp.skip ?_
        refine hK3 _ ?_
        refine AWp.regionV ?_
        refine hK1 _ (i + 1) (hi') (by omega) ?_
        refine Le.m 0 ?_ ?_ ?_
        · first | with_reducible rfl | (simp only [push_cast, reduceIte, Nat.reduceEqDiff, Nat.reduceLT, Nat.reduceAdd, Nat.reduceSub, Nat.reduceMul, Nat.reduceLeDiff, Nat.reducePow, Int.reduceLT, Int.reduceToNat, reduceCtorEq, Int.reduceNeg, Int.reduceEq, Nat.reduceBEq, Nat.reduceBNe, Int.reduceBEq, Int.reduceBNe, String.reduceEq]; first | done | rfl | (simp (disch := omega) only [w_nat, w_add, w_addl, w_addr, w_sub, w_subl, w_mul, w_mull, w_mulr, w_u32, w_u16, w_u8, w_u32a, N_zero]; first | done | rfl))
        · simp only [push_cast, reduceIte, Nat.reduceEqDiff, Nat.reduceLT, Nat.reduceAdd, Nat.reduceSub, Nat.reduceMul, Nat.reduceLeDiff, Nat.reducePow, Int.reduceLT, Int.reduceToNat, reduceCtorEq, Int.reduceNeg, Int.reduceEq, Nat.reduceBEq, Nat.reduceBNe, Int.reduceBEq, Int.reduceBNe, String.reduceEq]
          try simp (disch := omega) only [w_nat, w_add, w_addl, w_addr, w_sub, w_subl, w_mul, w_mull, w_mulr, w_u32, w_u16, w_u8, w_u32a, N_zero]
          rw [Nat.add_mul, Nat.one_mul]
        · refine ⟨rfl, rfl, rfl, rfl, ?_, rfl⟩
          show (chunkYs k l).take (i + 1) = (chunkYs k l).take i ++ [_]
          obtain ⟨h1, h2⟩ := List.getElem?_eq_some_iff.1 (chunkYs_get hi')
          rw [List.take_succ_eq_append_getElem h1, h2]
    · skip
      have hie : i = cdiv l.length k := by
        have h1 : ¬ i * k < l.length := of_decide_eq_false c0
        have := mt (cdiv_lt hk0 (n := l.length) (i := i)).1 h1
        omega
      subst hie
      refine AWp.exit ?_
      simp only [thenQ, blockQ, reduceIte, Nat.reduceEqDiff]
      try simp only [thenQ, blockQ]
      refine bodyQ.n ?_
      clear hK2 K2 hK1 K1
      exact ⟨fun _ => List.take_of_length_le (by simp [chunkYs, chunks]), fun h => (by cases h)⟩

theorem chunk_c (k : Nat) (l : List UInt8) (hk : 0 < k) : PC Try.prog 53 [.sl false 1 (bys l), nat k] (.fn (.func 61) [] [.ref true (.agg [.sl false 1 (bys l)]), .ref true (.agg [nat k])]) := by
  refine PC.of_body (by simp only [push_cast]) Try.func53 rfl (by rw [Try.ntmps53]; simp) ?_
  refine AWp.regionW ?_
  refine AWp.seqK fun K1 hK1 => ?_
  refine AWp.regionW ?_
  refine AWp.condF ?_ (by simp only [push_cast, reduceIte, Nat.reduceEqDiff, Nat.reduceLT, Nat.reduceAdd, Nat.reduceSub, Nat.reduceMul, Nat.reduceLeDiff, Nat.reducePow, Int.reduceLT, Int.reduceToNat, reduceCtorEq, Int.reduceNeg, Int.reduceEq, Nat.reduceBEq, Nat.reduceBNe, Int.reduceBEq, Int.reduceBNe, String.reduceEq]; rw [decide_eq_false (by omega)])
  refine AWp.skip ?_
  refine hK1 _ ?_
  refine AWp.regionW ?_
  refine AWp.pubBox 0 rfl (Nat.le_refl _) rfl (by simp) ?_
  refine AWp.pubBox 1 rfl (Nat.zero_le _) rfl (by simp) ?_
  simp only [push_cast, reduceIte, Nat.reduceEqDiff, Nat.reduceLT, Nat.reduceAdd, Nat.reduceSub, Nat.reduceMul, Nat.reduceLeDiff, Nat.reducePow, Int.reduceLT, Int.reduceToNat, reduceCtorEq, Int.reduceNeg, Int.reduceEq, Nat.reduceBEq, Nat.reduceBNe, Int.reduceBEq, Int.reduceBNe, String.reduceEq]
  refine AWp.ret ?_
  try simp only [thenQ, blockQ]
  refine bodyQ.m ?_
  clear hK1 K1
  rfl

theorem numbers_c (k : Nat) (l : List UInt8) : PC Try.prog 43 [nat k, .sl false 1 (bys l)] (.fn (.func 52) [] [.ref true (.agg [.sl false 1 (bys l)]), .ref true (.agg [nat k])]) := by
  refine PC.of_body (by simp only [push_cast]) Try.func43 rfl (by rw [Try.ntmps43]; simp) ?_
  refine AWp.regionW ?_
  refine AWp.regionW ?_
  refine AWp.pubBox 0 rfl (Nat.le_refl _) rfl (by simp) ?_
  refine AWp.pubBox 1 rfl (Nat.zero_le _) rfl (by simp) ?_
  simp only [push_cast, reduceIte, Nat.reduceEqDiff, Nat.reduceLT, Nat.reduceAdd, Nat.reduceSub, Nat.reduceMul, Nat.reduceLeDiff, Nat.reducePow, Int.reduceLT, Int.reduceToNat, reduceCtorEq, Int.reduceNeg, Int.reduceEq, Nat.reduceBEq, Nat.reduceBNe, Int.reduceBEq, Int.reduceBNe, String.reduceEq]
  refine AWp.ret ?_
  try simp only [thenQ, blockQ]
  refine bodyQ.m ?_
  rfl

/-- the number that bytes are, the greatest first -/
def beN (l : List UInt8) : Nat := l.foldl (fun x b => x * 256 + b.toNat) 0
/-- the numbers in bytes -/
def numsOf (k : Nat) (l : List UInt8) : List Nat := (List.range (l.length / k)).map fun i => beN ((l.drop (i * k)).take k)
def numYs (k : Nat) (l : List UInt8) : List (List AV) := (numsOf k l).map fun n => [u32 n]

theorem shl8 {x : Nat} (h : x < 2 ^ 24) : IntKind.u32.wrap (N x * 2 ^ min 8 IntKind.u32.bits) = N (x * 256) := by
  have h2 : IntKind.u32.bits = 32 := rfl
  rw [h2, IntKind.wrap_u32]
  have : (2 : Int) ^ min 8 32 = 256 := rfl
  rw [this]
  unfold N
  omega

theorem or8 {x : Nat} {b : UInt8} (h : x < 2 ^ 24) : bitsV .or .u32 (N (x * 256)) (N b.toNat) = N (x * 256 + b.toNat) := by
  have hb : b.toNat < 256 := b.toNat_lt
  unfold N
  have h1 : (BitVec.ofInt 32 ((x * 256 : Nat) : Int)).toNat = x * 256 := by rw [BitVec.toNat_ofInt]; omega
  have h2 : (BitVec.ofInt 32 (b.toNat : Int)).toNat = b.toNat := by rw [BitVec.toNat_ofInt]; omega
  show IntKind.u32.wrap ((BitVec.ofInt 32 ((x * 256 : Nat) : Int) ||| BitVec.ofInt 32 (b.toNat : Int)).toNat : Nat) = _
  rw [BitVec.toNat_or, h1, h2]
  have h3 : x * 256 ||| b.toNat = x * 256 + b.toNat := by
    have := Nat.shiftLeft_add_eq_or_of_lt (i := 8) (b := b.toNat) (by omega) x
    rw [Nat.shiftLeft_eq, show (2 : Nat) ^ 8 = 256 from rfl] at this
    omega
  rw [h3, IntKind.wrap_u32]
  omega

theorem beN_lt : ∀ (l : List UInt8), beN l < 256 ^ l.length := by
  intro l
  have key : ∀ (l : List UInt8) (x : Nat), l.foldl (fun x b => x * 256 + b.toNat) x + 1 ≤ (x + 1) * 256 ^ l.length := by
    intro l
    induction l with
    | nil => intro x; simp
    | cons b l ih =>
      intro x
      have hb : b.toNat < 256 := b.toNat_lt
      refine Nat.le_trans (ih _) ?_
      rw [List.length_cons, Nat.pow_succ, Nat.mul_comm (256 ^ l.length) 256, ← Nat.mul_assoc]
      refine Nat.mul_le_mul_right _ ?_
      show x * 256 + b.toNat + 1 ≤ (x + 1) * 256
      omega
  have := key l 0
  simp only [beN]; omega

theorem beN_snoc (l : List UInt8) (b : UInt8) : beN (l ++ [b]) = beN l * 256 + b.toNat := by simp [beN]

theorem numYs_len (k : Nat) (l : List UInt8) : (numYs k l).length = (numsOf k l).length := by simp [numYs]
theorem chunkYs_len (k : Nat) (l : List UInt8) : (chunkYs k l).length = cdiv l.length k := by simp [chunkYs, chunks]
theorem nums_len (k : Nat) (l : List UInt8) : (numsOf k l).length = l.length / k := by simp [numsOf]
theorem nums_le (k : Nat) (l : List UInt8) (hk : 0 < k) : (numsOf k l).length ≤ cdiv l.length k := by
  rw [nums_len]; exact Nat.div_le_div_right (by omega)
theorem numYs_get {k : Nat} {l : List UInt8} {i : Nat} (h : i < l.length / k) : (numYs k l)[i]? = some [u32 (beN ((l.drop (i * k)).take k))] := by
  simp [numYs, numsOf, h]
theorem numYs_split {k : Nat} {l : List UInt8} {i : Nat} (h : i < l.length / k) : numYs k l = (numYs k l).take i ++ [u32 (beN ((l.drop (i * k)).take k))] :: (numYs k l).drop (i + 1) := by
  obtain ⟨h1, h2⟩ := List.getElem?_eq_some_iff.1 (numYs_get h)
  rw [← h2, ← List.drop_eq_getElem_cons h1, List.take_append_drop]

theorem numbers_iter (k : Nat) (l : List UInt8) (hk : k = 1 ∨ k = 2 ∨ k = 4) (hl : l.length ≤ 2 ^ 40) :
    IterC Try.prog 52 [.ref false (.agg [.sl false 1 (bys l)]), .ref false (.agg [nat k])] (numYs k l) := by
  have hk0 : 0 < k := by omega
  refine IterC.of_body Try.func52 rfl (by rw [Try.ntmps52]; simp) fun lb => ?_
  refine AWp.regionW ?_
  refine AWp.regionM fun K1 hK1 => ?_
  refine ARun2.callM (chunk_c k l hk0) ?_
  refine ARun2.endm (hK1 _ ?_)
  refine AWp.block ?_
  refine AWp.rangeFuncM (chunk_iter k l hk0 (by omega) hl) [2, 3] (fun pre ob tr go => ob = [.box 84 [.val (.func (.yield lb) #[] #[])]] ∧ go = true ∧ tr = (numYs k l).take pre.length ∧ pre.length ≤ cdiv l.length k) (fun e ob tr go => e = .ret ∧ ob = [.box 84 [.val (.func (.yield lb) #[] #[])]] ∧ Fin (numYs k l) tr go) ?_ ?_ ?_ ?_ ?_
  · intro x hx
    simp only [chunkYs, List.mem_map] at hx
    obtain ⟨c, _, rfl⟩ := hx
    rfl
  · exact ⟨rfl, rfl, rfl, Nat.zero_le _⟩
  · rintro pre x post ob tr go hxs ⟨rfl, rfl, rfl, hle⟩
    have hpl : pre.length < cdiv l.length k := by rw [← chunkYs_len k l, hxs]; simp
    have hx : (chunkYs k l)[pre.length]? = some x := by rw [hxs]; simp
    rw [chunkYs_get hpl] at hx
    simp only [Option.some.injEq] at hx
    subst hx
    generalize hch : (l.drop (pre.length * k)).take k = c at hxs ⊢
    have hcl : c.length ≤ k := by rw [← hch]; exact List.length_take_le _ _
    have hcl2 : c.length = min k (l.length - pre.length * k) := by rw [← hch, List.length_take, List.length_drop]
    refine AWp.regionV ?_
    change AWp _ _ _ _
    refine AWp.block ?_
    refine AWp.regionW ?_
    refine AWp.seqK fun K2 hK2 => ?_
    refine AWp.regionW ?_
    refine AWp.block ?_
    refine AWp.loopK0 [2, 3, 4, 12, 13] (fun (j : Nat) => [(14, nat j), (5, u32 (beN (c.take j)))]) (fun j => j ≤ c.length) (fun j => c.length - j) (0) ?_ (Nat.zero_le _) ?_
    · skip
      refine Le.m 1 ?_ ?_
      · first | with_reducible rfl | (simp only [push_cast, reduceIte, Nat.reduceEqDiff, Nat.reduceLT, Nat.reduceAdd, Nat.reduceSub, Nat.reduceMul, Nat.reduceLeDiff, Nat.reducePow, Int.reduceLT, Int.reduceToNat, reduceCtorEq, Int.reduceNeg, Int.reduceEq, Nat.reduceBEq, Nat.reduceBNe, Int.reduceBEq, Int.reduceBNe, String.reduceEq]; first | done | rfl | (simp (disch := omega) only [w_nat, w_add, w_addl, w_addr, w_sub, w_subl, w_mul, w_mull, w_mulr, w_u32, w_u16, w_u8, w_u32a, N_zero]; first | done | rfl))
      · first | (simp only [push_cast, reduceIte, Nat.reduceEqDiff, Nat.reduceLT, Nat.reduceAdd, Nat.reduceSub, Nat.reduceMul, Nat.reduceLeDiff, Nat.reducePow, Int.reduceLT, Int.reduceToNat, reduceCtorEq, Int.reduceNeg, Int.reduceEq, Nat.reduceBEq, Nat.reduceBNe, Int.reduceBEq, Int.reduceBNe, String.reduceEq]; first | done | rfl | (simp (disch := omega) only [w_nat, w_add, w_addl, w_addr, w_sub, w_subl, w_mul, w_mull, w_mulr, w_u32, w_u16, w_u8, w_u32a, N_zero]; first | done | rfl))
    · intro j hj K3 hK3
      refine AWp.regionW ?_
      refine AWp.seqK fun K4 hK4 => ?_
      refine AWp.condLM (fun c0 => ?_) (fun c0 => ?_)
      · skip
        have hjl : j < c.length := of_decide_eq_true c0
        have hx24 : beN (c.take j) < 2 ^ 24 := by
          have h1 := beN_lt (c.take j)
          rw [List.length_take, Nat.min_eq_left (by omega)] at h1
          have h2 : 256 ^ j ≤ 256 ^ 3 := Nat.pow_le_pow_right (by omega) (by omega)
          omega
        have hsn : beN (c.take (j + 1)) = beN (c.take j) * 256 + c[j].toNat := by rw [List.take_succ_eq_append_getElem hjl, beN_snoc]
        refine AWp.skip ?_
        refine hK4 _ ?_
        refine AWp.seqK fun K5 hK5 => ?_
        refine AWp.block ?_
        refine AWp.regionM fun K6 hK6 => ?_
        refine ARun2.indexM (j) (.val (.int .u8 (N c[j].toNat))) ?_ ?_
        · rw [bys_get, List.getElem?_eq_getElem hjl]; rfl
        refine ARun2.endm (hK6 _ ?_)
        refine AWp.regionV ?_
        rw [shl8 hx24, or8 hx24, ← hsn]
        refine hK5 _ ?_
        refine AWp.regionV ?_
        refine hK3 _ (j + 1) (by omega) (by omega) ?_
        refine Le.m 1 ?_ ?_
        · first | with_reducible rfl | (simp only [push_cast, reduceIte, Nat.reduceEqDiff, Nat.reduceLT, Nat.reduceAdd, Nat.reduceSub, Nat.reduceMul, Nat.reduceLeDiff, Nat.reducePow, Int.reduceLT, Int.reduceToNat, reduceCtorEq, Int.reduceNeg, Int.reduceEq, Nat.reduceBEq, Nat.reduceBNe, Int.reduceBEq, Int.reduceBNe, String.reduceEq]; first | done | rfl | (simp (disch := omega) only [w_nat, w_add, w_addl, w_addr, w_sub, w_subl, w_mul, w_mull, w_mulr, w_u32, w_u16, w_u8, w_u32a, N_zero]; first | done | rfl))
        · first | (simp only [push_cast, reduceIte, Nat.reduceEqDiff, Nat.reduceLT, Nat.reduceAdd, Nat.reduceSub, Nat.reduceMul, Nat.reduceLeDiff, Nat.reducePow, Int.reduceLT, Int.reduceToNat, reduceCtorEq, Int.reduceNeg, Int.reduceEq, Nat.reduceBEq, Nat.reduceBNe, Int.reduceBEq, Int.reduceBNe, String.reduceEq]; first | done | rfl | (simp (disch := omega) only [w_nat, w_add, w_addl, w_addr, w_sub, w_subl, w_mul, w_mull, w_mulr, w_u32, w_u16, w_u8, w_u32a, N_zero]; first | done | rfl))
      · skip
        have hjc : j = c.length := by have h := of_decide_eq_false c0; omega
        subst hjc
        refine AWp.exit ?_
        simp only [thenQ, blockQ, reduceIte, Nat.reduceEqDiff]
        refine hK2 _ ?_
        cases hcd : decide (c.length < k) with
        | true =>
          have hlt : c.length < k := of_decide_eq_true hcd
          refine AWp.regionS fun K hK => ?_
          simp only [push_cast, reduceIte, Nat.reduceEqDiff, Nat.reduceLT, Nat.reduceAdd, Nat.reduceSub, Nat.reduceMul, Nat.reduceLeDiff, Nat.reducePow, Int.reduceLT, Int.reduceToNat, reduceCtorEq, Int.reduceNeg, Int.reduceEq, Nat.reduceBEq, Nat.reduceBNe, Int.reduceBEq, Int.reduceBNe, String.reduceEq, hcd, List.take_length]
          refine ARun2.nil (hK _ ?_)
          refine AWp.condT ?_
          refine AWp.ret ⟨_, Le.refl _, rfl, rfl, fun _ => ?_, fun h => by cases h⟩
          refine List.take_of_length_le ?_
          rw [numYs_len, nums_len]
          have : ¬ pre.length < l.length / k := by
            rw [Nat.lt_div_iff_mul_lt hk0]
            omega
          omega
        | false =>
          have hfull : c.length = k := by have := of_decide_eq_false hcd; omega
          have hid : pre.length < l.length / k := by
            rw [Nat.lt_div_iff_mul_lt hk0]
            omega
          have hsp := numYs_split hid
          rw [hch] at hsp
          refine AWp.regionS fun K hK => ?_
          simp only [push_cast, reduceIte, Nat.reduceEqDiff, Nat.reduceLT, Nat.reduceAdd, Nat.reduceSub, Nat.reduceMul, Nat.reduceLeDiff, Nat.reducePow, Int.reduceLT, Int.reduceToNat, reduceCtorEq, Int.reduceNeg, Int.reduceEq, Nat.reduceBEq, Nat.reduceBNe, Int.reduceBEq, Int.reduceBNe, String.reduceEq, hcd, List.take_length]
          refine ARun2.yieldM (x := [u32 (beN c)]) ((numYs k l).drop (pre.length + 1)) hsp fun b => ?_
          refine ARun2.nil (hK _ ?_)
          refine AWp.condM (fun hc2 => ?_) (fun hc2 => ?_)
          · refine AWp.ret ⟨_, Le.refl _, rfl, rfl, fun h => ?_, fun _ => ?_⟩
            · cases b <;> simp at hc2 h
            · exact ⟨(numYs k l).drop (pre.length + 1), hsp.trans (by rw [List.append_assoc]; rfl)⟩
          · have hb : b = true := by cases b <;> simp at hc2 ⊢
            subst hb
            refine AWp.skip ⟨_, Le.refl _, rfl, rfl, ?_, ?_⟩
            · rw [List.length_append, List.length_cons, List.length_nil]
              obtain ⟨h1, h2⟩ := List.getElem?_eq_some_iff.1 (numYs_get hid)
              rw [hch] at h2
              rw [List.take_succ_eq_append_getElem h1, h2]
            · rw [List.length_append, List.length_cons, List.length_nil]; omega
  · rintro ob tr go df ⟨rfl, rfl, rfl, _⟩
    try simp only [thenQ, blockQ]
    refine bodyQ.n ?_
    clear hK1 K1
    exact ⟨fun _ => List.take_of_length_le (by rw [numYs_len, chunkYs_len]; exact nums_le k l hk0), fun h => by simp at h⟩
  · rintro e ob tr go df ⟨rfl, rfl, hfin⟩
    exact ⟨_, rfl, hfin⟩
end Go.Proofs.Ytmcedkcehcacpaa.C

/- wire: Collect, Numbers. -/
set_option linter.unusedVariables false
set_option linter.unusedSimpArgs false
namespace Go.Proofs.Ytmcedkcehcacpaa.C
open Go.Abs

theorem u32s_snoc (l : List Nat) (n : Nat) : u32s l ++ [.val (.int .u32 (N n))] = u32s (l ++ [n]) := by simp [u32s]
theorem numYs_ps (l : List Nat) : ∀ x ∈ (l.map fun n => [u32 n]), x.length = 1 := by
  intro x hx
  simp only [List.mem_map] at hx
  obtain ⟨n, _, rfl⟩ := hx
  rfl

theorem appendSeq_c {f : FuncId} {cap cap' : List AV} {l : List Nat} (hl : l.length ≤ 2 ^ 40) (hit : IterC Try.prog f cap' (l.map fun n => [u32 n])) (hc : callable Try.prog f = true) (hcap : HandL [] cap cap') (hcl : AV.idsOkL (fun _ => false) cap = true) :
    PC Try.prog 51 [.val (.slice none 0 0), .fn (.func f) [] cap] (.sl true 1 (u32s l)) := by
  refine PC.of_body (by simp only [push_cast]) Try.func51 rfl (by rw [Try.ntmps51]; simp) ?_
  refine AWp.regionW ?_
  refine AWp.seqK fun K1 hK1 => ?_
  refine AWp.regionW ?_
  refine AWp.block ?_
  refine AWp.nilBox 0 0 23 1 rfl rfl ?_
  refine AWp.rangeFuncM (hit) [2] (fun pre ob tr go => ob = [.box 56 [.own 1], .row 23 1 (u32s (l.take pre.length))]) (fun _ _ _ _ => False) ?_ ?_ ?_ ?_ ?_
  · exact numYs_ps l
  · rfl
  · rintro pre x post ob tr go hxs rfl
    have hpl : pre.length < l.length := by
      have := congrArg List.length hxs
      simp at this; omega
    have hx : (l.map fun n => [u32 n])[pre.length]? = some x := by rw [hxs]; simp
    simp only [List.getElem?_map, List.getElem?_eq_getElem hpl, Option.map_some, Option.some.injEq] at hx
    subst hx
    refine AWp.regionV ?_
    change AWp _ _ _ _
    refine AWp.block ?_
    refine AWp.regionN fun K2 hK2 => ?_
    refine ARun2.appendM ?_ ?_ ?_
    · rw [Ytmcedkcehcacpaa.Facts.eb56, u32s_len, List.length_take, List.length_cons, List.length_nil]; omega
    · rw [u32s_len, List.length_take, List.length_cons, List.length_nil]; omega
    refine ARun2.endm (hK2 _ ?_)
    refine ⟨_, Le.refl _, ?_⟩
    have e : u32s (l.take (pre ++ [[u32 l[pre.length]]]).length) = u32s (l.take pre.length) ++ [u32 l[pre.length]] := by
      rw [List.length_append, List.length_cons, List.length_nil, List.take_succ_eq_append_getElem hpl, ← u32s_snoc]
    exact (congrArg (fun z => [Ob.box 56 [AV.own 1], Ob.row 23 1 z]) e).symm
  · rintro ob tr go df rfl
    refine hK1 _ ?_
    refine AWp.regionW ?_
    refine AWp.pub 1 rfl (Nat.zero_le _) ?_
    simp only [push_cast, reduceIte, Nat.reduceEqDiff, Nat.reduceLT, Nat.reduceAdd, Nat.reduceSub, Nat.reduceMul, Nat.reduceLeDiff, Nat.reducePow, Int.reduceLT, Int.reduceToNat, reduceCtorEq, Int.reduceNeg, Int.reduceEq, Nat.reduceBEq, Nat.reduceBNe, Int.reduceBEq, Int.reduceBNe, String.reduceEq]
    rw [List.take_length]
    refine AWp.ret ?_
    try simp only [thenQ, blockQ]
    refine bodyQ.m ?_
    clear hK1 K1
    rfl
  · rintro e ob tr go df h
    exact h.elim

theorem collect_c {f : FuncId} {cap cap' : List AV} {l : List Nat} (hl : l.length ≤ 2 ^ 40) (hit : IterC Try.prog f cap' (l.map fun n => [u32 n])) (hc : callable Try.prog f = true) (hcap : HandL [] cap cap') (hcl : AV.idsOkL (fun _ => false) cap = true) (hx : HandL [] cap cap) :
    PC Try.prog 42 [.fn (.func f) [] cap] (.sl true 1 (u32s l)) := by
  refine PC.of_body (by simp only [push_cast]) Try.func42 rfl (by rw [Try.ntmps42]; simp) ?_
  refine AWp.regionW ?_
  refine AWp.regionM fun K1 hK1 => ?_
  refine ARun2.callM (appendSeq_c hl hit hc hcap hcl) ?_
  refine ARun2.endm (hK1 _ ?_)
  refine AWp.ret ?_
  try simp only [thenQ, blockQ]
  refine bodyQ.m ?_
  clear hK1 K1
  rfl

theorem numbers_n (k : Nat) (l : List UInt8) (hk : k = 1 ∨ k = 2 ∨ k = 4) (hl : l.length ≤ 2 ^ 40) (hm : l.length % k = 0) :
    PC Try.prog 29 [nat k, .sl false 1 (bys l)] (.sl true 1 (u32s (numsOf k l))) := by
  have hk0 : 0 < k := by omega
  have hr : (k == 1 || k == 2 || k == 4) = true := by rcases hk with rfl | rfl | rfl <;> rfl
  refine PC.of_body (by simp only [push_cast]) Try.func29 rfl (by rw [Try.ntmps29]; simp) ?_
  refine AWp.regionW ?_
  refine AWp.seqK fun K1 hK1 => ?_
  refine AWp.regionM fun K2 hK2 => ?_
  refine ARun2.callM (hr ▸ wire_right k) ?_
  refine ARun2.endm (hK2 _ ?_)
  refine AWp.condF ?_ (by simp only [push_cast, reduceIte, Nat.reduceEqDiff, Nat.reduceLT, Nat.reduceAdd, Nat.reduceSub, Nat.reduceMul, Nat.reduceLeDiff, Nat.reducePow, Int.reduceLT, Int.reduceToNat, reduceCtorEq, Int.reduceNeg, Int.reduceEq, Nat.reduceBEq, Nat.reduceBNe, Int.reduceBEq, Int.reduceBNe, String.reduceEq, hm])
  refine AWp.skip ?_
  refine hK1 _ ?_
  refine AWp.regionM fun K3 hK3 => ?_
  refine ARun2.callM (numbers_c k l) ?_
  refine ARun2.callM (collect_c (l := numsOf k l) (cap := [.ref false (.agg [.sl false 1 (bys l)]), .ref false (.agg [nat k])]) (by rw [nums_len]; exact Nat.le_trans (Nat.div_le_self _ _) hl) (numbers_iter k l hk hl) rfl Hand.goL (by simp only [push_cast]) Hand.goL) ?_
  refine ARun2.endm (hK3 _ ?_)
  refine AWp.ret ?_
  try simp only [thenQ, blockQ]
  refine bodyQ.m ?_
  clear hK3 K3 hK2 K2 hK1 K1
  rfl

theorem numbers_none (k : Nat) (l : List UInt8) (hk : k = 1 ∨ k = 2 ∨ k = 4) (hl : l.length ≤ 2 ^ 40) (hm : l.length % k ≠ 0) :
    PC Try.prog 29 [nat k, .sl false 1 (bys l)] (.sl true 1 []) := by
  have hk0 : 0 < k := by omega
  have hr : (k == 1 || k == 2 || k == 4) = true := by rcases hk with rfl | rfl | rfl <;> rfl
  have hm' : (l.length % k != 0) = true := by simpa using hm
  refine PC.of_bodyW (by simp only [push_cast]) Try.func29 rfl (by rw [Try.ntmps29]; simp) ?_
  refine AWp.regionW ?_
  refine AWp.seqK fun K1 hK1 => ?_
  refine AWp.regionM fun K2 hK2 => ?_
  refine ARun2.callM (hr ▸ wire_right k) ?_
  refine ARun2.endm (hK2 _ ?_)
  refine AWp.condT ?_ (by simp only [push_cast, reduceIte, Nat.reduceEqDiff, Nat.reduceLT, Nat.reduceAdd, Nat.reduceSub, Nat.reduceMul, Nat.reduceLeDiff, Nat.reducePow, Int.reduceLT, Int.reduceToNat, reduceCtorEq, Int.reduceNeg, Int.reduceEq, Nat.reduceBEq, Nat.reduceBNe, Int.reduceBEq, Int.reduceBNe, String.reduceEq, hm'])
  refine AWp.regionW ?_
  refine AWp.ret ?_
  try simp only [thenQ, blockQ]
  refine bodyQ.m ?_
  clear hK2 K2 hK1 K1
  exact Hand.nil
end Go.Proofs.Ytmcedkcehcacpaa.C

/- slices.Clone, bytes.Equal. -/
set_option linter.unusedVariables false
set_option linter.unusedSimpArgs false
namespace Go.Proofs.Ytmcedkcehcacpaa.C
open Go.Abs

theorem bys_cons (b : UInt8) (l : List UInt8) : bys (b :: l) = .val (.int .u8 (N b.toNat)) :: bys l := rfl

theorem clone_c (l : List UInt8) (hl : l.length ≤ 2 ^ 40) : PC Try.prog 50 [.sl false 1 (bys l)] (.sl true 1 (bys l)) := by
  refine PC.of_body (by simp only [push_cast]) Try.func50 rfl (by rw [Try.ntmps50]; simp) ?_
  refine AWp.regionS fun K hK => ?_; simp only [push_cast, reduceIte, Nat.reduceEqDiff, Nat.reduceLT, Nat.reduceAdd, Nat.reduceSub, Nat.reduceMul, Nat.reduceLeDiff, Nat.reducePow, Int.reduceLT, Int.reduceToNat, reduceCtorEq, Int.reduceNeg, Int.reduceEq, Nat.reduceBEq, Nat.reduceBNe, Int.reduceBEq, Int.reduceBNe, String.reduceEq]
  refine ARun2.nil (hK _ ?_); clear hK K
  refine AWp.seqK fun KA hKA => ?_
  cases l with
  | nil =>
    refine AWp.regionS fun K hK => ?_; simp only [push_cast, reduceIte, Nat.reduceEqDiff, Nat.reduceLT, Nat.reduceAdd, Nat.reduceSub, Nat.reduceMul, Nat.reduceLeDiff, Nat.reducePow, Int.reduceLT, Int.reduceToNat, reduceCtorEq, Int.reduceNeg, Int.reduceEq, Nat.reduceBEq, Nat.reduceBNe, Int.reduceBEq, Int.reduceBNe, String.reduceEq]
    refine ARun2.nilSl rfl rfl (.inl rfl) rfl Ytmcedkcehcacpaa.Facts.nk25 (by rw [Ytmcedkcehcacpaa.Facts.nk25]; rfl) (fun b hb => ?_)
    refine ARun2.go ?_; simp only [push_cast, reduceIte, Nat.reduceEqDiff, Nat.reduceLT, Nat.reduceAdd, Nat.reduceSub, Nat.reduceMul, Nat.reduceLeDiff, Nat.reducePow, Int.reduceLT, Int.reduceToNat, reduceCtorEq, Int.reduceNeg, Int.reduceEq, Nat.reduceBEq, Nat.reduceBNe, Int.reduceBEq, Int.reduceBNe, String.reduceEq]
    refine ARun2.nil (hK _ ?_); clear hK K
    refine AWp.cond (by first | (simp only [push_cast, reduceIte, Nat.reduceEqDiff, Nat.reduceLT, Nat.reduceAdd, Nat.reduceSub, Nat.reduceMul, Nat.reduceLeDiff, Nat.reducePow, Int.reduceLT, Int.reduceToNat, reduceCtorEq, Int.reduceNeg, Int.reduceEq, Nat.reduceBEq, Nat.reduceBNe, Int.reduceBEq, Int.reduceBNe, String.reduceEq]; done) | (simp only [push_cast, reduceIte, Nat.reduceEqDiff, Nat.reduceLT, Nat.reduceAdd, Nat.reduceSub, Nat.reduceMul, Nat.reduceLeDiff, Nat.reducePow, Int.reduceLT, Int.reduceToNat, reduceCtorEq, Int.reduceNeg, Int.reduceEq, Nat.reduceBEq, Nat.reduceBNe, Int.reduceBEq, Int.reduceBNe, String.reduceEq]; rfl)) (fun hc => ?_) (fun hc => ?_)
    · refine AWp.regionS fun K hK => ?_; simp only [push_cast, reduceIte, Nat.reduceEqDiff, Nat.reduceLT, Nat.reduceAdd, Nat.reduceSub, Nat.reduceMul, Nat.reduceLeDiff, Nat.reducePow, Int.reduceLT, Int.reduceToNat, reduceCtorEq, Int.reduceNeg, Int.reduceEq, Nat.reduceBEq, Nat.reduceBNe, Int.reduceBEq, Int.reduceBNe, String.reduceEq]
      refine ARun2.nil (hK _ ?_); clear hK K
      refine AWp.nilOwn 2 5 1 (by simp only [push_cast, reduceIte, Nat.reduceEqDiff, Nat.reduceLT, Nat.reduceAdd, Nat.reduceSub, Nat.reduceMul, Nat.reduceLeDiff, Nat.reducePow, Int.reduceLT, Int.reduceToNat, reduceCtorEq, Int.reduceNeg, Int.reduceEq, Nat.reduceBEq, Nat.reduceBNe, Int.reduceBEq, Int.reduceBNe, String.reduceEq]) ?_
      simp only [push_cast, reduceIte, Nat.reduceEqDiff, Nat.reduceLT, Nat.reduceAdd, Nat.reduceSub, Nat.reduceMul, Nat.reduceLeDiff, Nat.reducePow, Int.reduceLT, Int.reduceToNat, reduceCtorEq, Int.reduceNeg, Int.reduceEq, Nat.reduceBEq, Nat.reduceBNe, Int.reduceBEq, Int.reduceBNe, String.reduceEq]
      refine AWp.pub 0 rfl (Nat.le_refl _) ?_
      refine AWp.ret ⟨_, rfl, ?_⟩
      simp only [push_cast, reduceIte, Nat.reduceEqDiff, Nat.reduceLT, Nat.reduceAdd, Nat.reduceSub, Nat.reduceMul, Nat.reduceLeDiff, Nat.reducePow, Int.reduceLT, Int.reduceToNat, reduceCtorEq, Int.reduceNeg, Int.reduceEq, Nat.reduceBEq, Nat.reduceBNe, Int.reduceBEq, Int.reduceBNe, String.reduceEq]
    · refine AWp.skip (hKA _ ?_)
      refine AWp.regionS fun K hK => ?_; simp only [push_cast, reduceIte, Nat.reduceEqDiff, Nat.reduceLT, Nat.reduceAdd, Nat.reduceSub, Nat.reduceMul, Nat.reduceLeDiff, Nat.reducePow, Int.reduceLT, Int.reduceToNat, reduceCtorEq, Int.reduceNeg, Int.reduceEq, Nat.reduceBEq, Nat.reduceBNe, Int.reduceBEq, Int.reduceBNe, String.reduceEq]
      refine ARun2.buildOwn (e := 5) rfl rfl Ytmcedkcehcacpaa.Facts.es25 Ytmcedkcehcacpaa.Facts.el25 rfl (fun p hp => by simp at hp) (by decide) ?_
      refine ARun2.go ?_; simp only [push_cast, reduceIte, Nat.reduceEqDiff, Nat.reduceLT, Nat.reduceAdd, Nat.reduceSub, Nat.reduceMul, Nat.reduceLeDiff, Nat.reducePow, Int.reduceLT, Int.reduceToNat, reduceCtorEq, Int.reduceNeg, Int.reduceEq, Nat.reduceBEq, Nat.reduceBNe, Int.reduceBEq, Int.reduceBNe, String.reduceEq]
      refine ARun2.append (xs := []) rfl rfl (by first | (simp only [push_cast, reduceIte, Nat.reduceEqDiff, Nat.reduceLT, Nat.reduceAdd, Nat.reduceSub, Nat.reduceMul, Nat.reduceLeDiff, Nat.reducePow, Int.reduceLT, Int.reduceToNat, reduceCtorEq, Int.reduceNeg, Int.reduceEq, Nat.reduceBEq, Nat.reduceBNe, Int.reduceBEq, Int.reduceBNe, String.reduceEq]; done) | (simp only [push_cast, reduceIte, Nat.reduceEqDiff, Nat.reduceLT, Nat.reduceAdd, Nat.reduceSub, Nat.reduceMul, Nat.reduceLeDiff, Nat.reducePow, Int.reduceLT, Int.reduceToNat, reduceCtorEq, Int.reduceNeg, Int.reduceEq, Nat.reduceBEq, Nat.reduceBNe, Int.reduceBEq, Int.reduceBNe, String.reduceEq]; rfl)) rfl (by first | (simp only [push_cast, reduceIte, Nat.reduceEqDiff, Nat.reduceLT, Nat.reduceAdd, Nat.reduceSub, Nat.reduceMul, Nat.reduceLeDiff, Nat.reducePow, Int.reduceLT, Int.reduceToNat, reduceCtorEq, Int.reduceNeg, Int.reduceEq, Nat.reduceBEq, Nat.reduceBNe, Int.reduceBEq, Int.reduceBNe, String.reduceEq]; done) | (simp only [push_cast, reduceIte, Nat.reduceEqDiff, Nat.reduceLT, Nat.reduceAdd, Nat.reduceSub, Nat.reduceMul, Nat.reduceLeDiff, Nat.reducePow, Int.reduceLT, Int.reduceToNat, reduceCtorEq, Int.reduceNeg, Int.reduceEq, Nat.reduceBEq, Nat.reduceBNe, Int.reduceBEq, Int.reduceBNe, String.reduceEq]; rfl)) (by first | (simp only [push_cast, reduceIte, Nat.reduceEqDiff, Nat.reduceLT, Nat.reduceAdd, Nat.reduceSub, Nat.reduceMul, Nat.reduceLeDiff, Nat.reducePow, Int.reduceLT, Int.reduceToNat, reduceCtorEq, Int.reduceNeg, Int.reduceEq, Nat.reduceBEq, Nat.reduceBNe, Int.reduceBEq, Int.reduceBNe, String.reduceEq]; done) | (simp only [push_cast, reduceIte, Nat.reduceEqDiff, Nat.reduceLT, Nat.reduceAdd, Nat.reduceSub, Nat.reduceMul, Nat.reduceLeDiff, Nat.reducePow, Int.reduceLT, Int.reduceToNat, reduceCtorEq, Int.reduceNeg, Int.reduceEq, Nat.reduceBEq, Nat.reduceBNe, Int.reduceBEq, Int.reduceBNe, String.reduceEq]; rfl)) (.inl (by first | (simp only [push_cast, reduceIte, Nat.reduceEqDiff, Nat.reduceLT, Nat.reduceAdd, Nat.reduceSub, Nat.reduceMul, Nat.reduceLeDiff, Nat.reducePow, Int.reduceLT, Int.reduceToNat, reduceCtorEq, Int.reduceNeg, Int.reduceEq, Nat.reduceBEq, Nat.reduceBNe, Int.reduceBEq, Int.reduceBNe, String.reduceEq]; done) | (simp only [push_cast, reduceIte, Nat.reduceEqDiff, Nat.reduceLT, Nat.reduceAdd, Nat.reduceSub, Nat.reduceMul, Nat.reduceLeDiff, Nat.reducePow, Int.reduceLT, Int.reduceToNat, reduceCtorEq, Int.reduceNeg, Int.reduceEq, Nat.reduceBEq, Nat.reduceBNe, Int.reduceBEq, Int.reduceBNe, String.reduceEq]; rfl))) (by first | (simp only [push_cast, reduceIte, Nat.reduceEqDiff, Nat.reduceLT, Nat.reduceAdd, Nat.reduceSub, Nat.reduceMul, Nat.reduceLeDiff, Nat.reducePow, Int.reduceLT, Int.reduceToNat, reduceCtorEq, Int.reduceNeg, Int.reduceEq, Nat.reduceBEq, Nat.reduceBNe, Int.reduceBEq, Int.reduceBNe, String.reduceEq]; done) | (simp only [push_cast, reduceIte, Nat.reduceEqDiff, Nat.reduceLT, Nat.reduceAdd, Nat.reduceSub, Nat.reduceMul, Nat.reduceLeDiff, Nat.reducePow, Int.reduceLT, Int.reduceToNat, reduceCtorEq, Int.reduceNeg, Int.reduceEq, Nat.reduceBEq, Nat.reduceBNe, Int.reduceBEq, Int.reduceBNe, String.reduceEq]; rfl)) ?_ ?_ rfl (by first | (simp only [push_cast, reduceIte, Nat.reduceEqDiff, Nat.reduceLT, Nat.reduceAdd, Nat.reduceSub, Nat.reduceMul, Nat.reduceLeDiff, Nat.reducePow, Int.reduceLT, Int.reduceToNat, reduceCtorEq, Int.reduceNeg, Int.reduceEq, Nat.reduceBEq, Nat.reduceBNe, Int.reduceBEq, Int.reduceBNe, String.reduceEq]; done) | (simp only [push_cast, reduceIte, Nat.reduceEqDiff, Nat.reduceLT, Nat.reduceAdd, Nat.reduceSub, Nat.reduceMul, Nat.reduceLeDiff, Nat.reducePow, Int.reduceLT, Int.reduceToNat, reduceCtorEq, Int.reduceNeg, Int.reduceEq, Nat.reduceBEq, Nat.reduceBNe, Int.reduceBEq, Int.reduceBNe, String.reduceEq]; rfl)) ?_
      · rw [Ytmcedkcehcacpaa.Facts.eb25]; simp only [List.length_nil]; simp at hl; omega
      · simp only [List.length_nil]; simp at hl; omega
      rw [List.nil_append]
      simp only [push_cast, reduceIte, Nat.reduceEqDiff, Nat.reduceLT, Nat.reduceAdd, Nat.reduceSub, Nat.reduceMul, Nat.reduceLeDiff, Nat.reducePow, Int.reduceLT, Int.reduceToNat, reduceCtorEq, Int.reduceNeg, Int.reduceEq, Nat.reduceBEq, Nat.reduceBNe, Int.reduceBEq, Int.reduceBNe, String.reduceEq]
      refine ARun2.nil (hK _ ?_); clear hK K
      refine AWp.pub 0 rfl (Nat.le_refl _) ?_
      refine AWp.ret ⟨_, rfl, ?_⟩
      simp only [push_cast, reduceIte, Nat.reduceEqDiff, Nat.reduceLT, Nat.reduceAdd, Nat.reduceSub, Nat.reduceMul, Nat.reduceLeDiff, Nat.reducePow, Int.reduceLT, Int.reduceToNat, reduceCtorEq, Int.reduceNeg, Int.reduceEq, Nat.reduceBEq, Nat.reduceBNe, Int.reduceBEq, Int.reduceBNe, String.reduceEq]
  | cons c l =>
    refine AWp.regionS fun K hK => ?_
    simp only [push_cast, reduceIte, Nat.reduceEqDiff, Nat.reduceLT, Nat.reduceAdd, Nat.reduceSub, Nat.reduceMul, Nat.reduceLeDiff, Nat.reducePow, Int.reduceLT, Int.reduceToNat, reduceCtorEq, Int.reduceNeg, Int.reduceEq, Nat.reduceBEq, Nat.reduceBNe, Int.reduceBEq, Int.reduceBNe, String.reduceEq, bys_cons]
    refine ARun2.nil (hK _ ?_); clear hK K
    refine AWp.cond (t := false) (by first | (simp only [push_cast, reduceIte, Nat.reduceEqDiff, Nat.reduceLT, Nat.reduceAdd, Nat.reduceSub, Nat.reduceMul, Nat.reduceLeDiff, Nat.reducePow, Int.reduceLT, Int.reduceToNat, reduceCtorEq, Int.reduceNeg, Int.reduceEq, Nat.reduceBEq, Nat.reduceBNe, Int.reduceBEq, Int.reduceBNe, String.reduceEq]; done) | (simp only [push_cast, reduceIte, Nat.reduceEqDiff, Nat.reduceLT, Nat.reduceAdd, Nat.reduceSub, Nat.reduceMul, Nat.reduceLeDiff, Nat.reducePow, Int.reduceLT, Int.reduceToNat, reduceCtorEq, Int.reduceNeg, Int.reduceEq, Nat.reduceBEq, Nat.reduceBNe, Int.reduceBEq, Int.reduceBNe, String.reduceEq]; rfl)) (fun hc => by cases hc) (fun hc => ?_)
    refine AWp.skip (hKA _ ?_)
    rw [← bys_cons]
    refine AWp.regionS fun K hK => ?_; simp only [push_cast, reduceIte, Nat.reduceEqDiff, Nat.reduceLT, Nat.reduceAdd, Nat.reduceSub, Nat.reduceMul, Nat.reduceLeDiff, Nat.reducePow, Int.reduceLT, Int.reduceToNat, reduceCtorEq, Int.reduceNeg, Int.reduceEq, Nat.reduceBEq, Nat.reduceBNe, Int.reduceBEq, Int.reduceBNe, String.reduceEq]
    refine ARun2.buildOwn (e := 5) rfl rfl Ytmcedkcehcacpaa.Facts.es25 Ytmcedkcehcacpaa.Facts.el25 rfl (fun p hp => by simp at hp) (by decide) ?_
    refine ARun2.go ?_; simp only [push_cast, reduceIte, Nat.reduceEqDiff, Nat.reduceLT, Nat.reduceAdd, Nat.reduceSub, Nat.reduceMul, Nat.reduceLeDiff, Nat.reducePow, Int.reduceLT, Int.reduceToNat, reduceCtorEq, Int.reduceNeg, Int.reduceEq, Nat.reduceBEq, Nat.reduceBNe, Int.reduceBEq, Int.reduceBNe, String.reduceEq]
    refine ARun2.append (xs := []) rfl rfl (by first | (simp only [push_cast, reduceIte, Nat.reduceEqDiff, Nat.reduceLT, Nat.reduceAdd, Nat.reduceSub, Nat.reduceMul, Nat.reduceLeDiff, Nat.reducePow, Int.reduceLT, Int.reduceToNat, reduceCtorEq, Int.reduceNeg, Int.reduceEq, Nat.reduceBEq, Nat.reduceBNe, Int.reduceBEq, Int.reduceBNe, String.reduceEq]; done) | (simp only [push_cast, reduceIte, Nat.reduceEqDiff, Nat.reduceLT, Nat.reduceAdd, Nat.reduceSub, Nat.reduceMul, Nat.reduceLeDiff, Nat.reducePow, Int.reduceLT, Int.reduceToNat, reduceCtorEq, Int.reduceNeg, Int.reduceEq, Nat.reduceBEq, Nat.reduceBNe, Int.reduceBEq, Int.reduceBNe, String.reduceEq]; rfl)) rfl (by first | (simp only [push_cast, reduceIte, Nat.reduceEqDiff, Nat.reduceLT, Nat.reduceAdd, Nat.reduceSub, Nat.reduceMul, Nat.reduceLeDiff, Nat.reducePow, Int.reduceLT, Int.reduceToNat, reduceCtorEq, Int.reduceNeg, Int.reduceEq, Nat.reduceBEq, Nat.reduceBNe, Int.reduceBEq, Int.reduceBNe, String.reduceEq]; done) | (simp only [push_cast, reduceIte, Nat.reduceEqDiff, Nat.reduceLT, Nat.reduceAdd, Nat.reduceSub, Nat.reduceMul, Nat.reduceLeDiff, Nat.reducePow, Int.reduceLT, Int.reduceToNat, reduceCtorEq, Int.reduceNeg, Int.reduceEq, Nat.reduceBEq, Nat.reduceBNe, Int.reduceBEq, Int.reduceBNe, String.reduceEq]; rfl)) (by first | (simp only [push_cast, reduceIte, Nat.reduceEqDiff, Nat.reduceLT, Nat.reduceAdd, Nat.reduceSub, Nat.reduceMul, Nat.reduceLeDiff, Nat.reducePow, Int.reduceLT, Int.reduceToNat, reduceCtorEq, Int.reduceNeg, Int.reduceEq, Nat.reduceBEq, Nat.reduceBNe, Int.reduceBEq, Int.reduceBNe, String.reduceEq]; done) | (simp only [push_cast, reduceIte, Nat.reduceEqDiff, Nat.reduceLT, Nat.reduceAdd, Nat.reduceSub, Nat.reduceMul, Nat.reduceLeDiff, Nat.reducePow, Int.reduceLT, Int.reduceToNat, reduceCtorEq, Int.reduceNeg, Int.reduceEq, Nat.reduceBEq, Nat.reduceBNe, Int.reduceBEq, Int.reduceBNe, String.reduceEq]; rfl)) (.inl (by first | (simp only [push_cast, reduceIte, Nat.reduceEqDiff, Nat.reduceLT, Nat.reduceAdd, Nat.reduceSub, Nat.reduceMul, Nat.reduceLeDiff, Nat.reducePow, Int.reduceLT, Int.reduceToNat, reduceCtorEq, Int.reduceNeg, Int.reduceEq, Nat.reduceBEq, Nat.reduceBNe, Int.reduceBEq, Int.reduceBNe, String.reduceEq]; done) | (simp only [push_cast, reduceIte, Nat.reduceEqDiff, Nat.reduceLT, Nat.reduceAdd, Nat.reduceSub, Nat.reduceMul, Nat.reduceLeDiff, Nat.reducePow, Int.reduceLT, Int.reduceToNat, reduceCtorEq, Int.reduceNeg, Int.reduceEq, Nat.reduceBEq, Nat.reduceBNe, Int.reduceBEq, Int.reduceBNe, String.reduceEq]; rfl))) (by first | (simp only [push_cast, reduceIte, Nat.reduceEqDiff, Nat.reduceLT, Nat.reduceAdd, Nat.reduceSub, Nat.reduceMul, Nat.reduceLeDiff, Nat.reducePow, Int.reduceLT, Int.reduceToNat, reduceCtorEq, Int.reduceNeg, Int.reduceEq, Nat.reduceBEq, Nat.reduceBNe, Int.reduceBEq, Int.reduceBNe, String.reduceEq]; done) | (simp only [push_cast, reduceIte, Nat.reduceEqDiff, Nat.reduceLT, Nat.reduceAdd, Nat.reduceSub, Nat.reduceMul, Nat.reduceLeDiff, Nat.reducePow, Int.reduceLT, Int.reduceToNat, reduceCtorEq, Int.reduceNeg, Int.reduceEq, Nat.reduceBEq, Nat.reduceBNe, Int.reduceBEq, Int.reduceBNe, String.reduceEq]; rfl)) ?_ ?_ rfl (by first | (simp only [push_cast, reduceIte, Nat.reduceEqDiff, Nat.reduceLT, Nat.reduceAdd, Nat.reduceSub, Nat.reduceMul, Nat.reduceLeDiff, Nat.reducePow, Int.reduceLT, Int.reduceToNat, reduceCtorEq, Int.reduceNeg, Int.reduceEq, Nat.reduceBEq, Nat.reduceBNe, Int.reduceBEq, Int.reduceBNe, String.reduceEq]; done) | (simp only [push_cast, reduceIte, Nat.reduceEqDiff, Nat.reduceLT, Nat.reduceAdd, Nat.reduceSub, Nat.reduceMul, Nat.reduceLeDiff, Nat.reducePow, Int.reduceLT, Int.reduceToNat, reduceCtorEq, Int.reduceNeg, Int.reduceEq, Nat.reduceBEq, Nat.reduceBNe, Int.reduceBEq, Int.reduceBNe, String.reduceEq]; rfl)) ?_
    · rw [Ytmcedkcehcacpaa.Facts.eb25, bys_len]; simp only [List.length_nil]; omega
    · rw [bys_len]; simp only [List.length_nil]; omega
    rw [List.nil_append]
    simp only [push_cast, reduceIte, Nat.reduceEqDiff, Nat.reduceLT, Nat.reduceAdd, Nat.reduceSub, Nat.reduceMul, Nat.reduceLeDiff, Nat.reducePow, Int.reduceLT, Int.reduceToNat, reduceCtorEq, Int.reduceNeg, Int.reduceEq, Nat.reduceBEq, Nat.reduceBNe, Int.reduceBEq, Int.reduceBNe, String.reduceEq]
    refine ARun2.nil (hK _ ?_); clear hK K
    refine AWp.pub 0 rfl (Nat.le_refl _) ?_
    refine AWp.ret ⟨_, rfl, ?_⟩
    simp only [push_cast, reduceIte, Nat.reduceEqDiff, Nat.reduceLT, Nat.reduceAdd, Nat.reduceSub, Nat.reduceMul, Nat.reduceLeDiff, Nat.reducePow, Int.reduceLT, Int.reduceToNat, reduceCtorEq, Int.reduceNeg, Int.reduceEq, Nat.reduceBEq, Nat.reduceBNe, Int.reduceBEq, Int.reduceBNe, String.reduceEq]

theorem ba_loop (b : ByteArray) : ∀ (n i : Nat) (r : List UInt8), b.size - i = n → ByteArray.toList.loop b i r = r.reverse ++ b.data.toList.drop i := by
  have hlen : b.data.toList.length = b.size := Array.length_toList
  intro n
  induction n with
  | zero =>
    intro i r h
    rw [ByteArray.toList.loop, if_neg (by omega), List.drop_of_length_le (by omega), List.append_nil]
  | succ n ih =>
    intro i r h
    have hi : i < b.size := by omega
    have hi' : i < b.data.toList.length := by omega
    have hg : b.get! i = b.data.toList[i] := by
      have hi2 : i < b.data.size := hi
      show b.data[i]! = _
      rw [getElem!_pos b.data i hi2, Array.getElem_toList]
    rw [ByteArray.toList.loop, if_pos hi, ih (i + 1) _ (by omega), List.drop_eq_getElem_cons hi', hg, List.reverse_cons, List.append_assoc]
    rfl

theorem bstr_list (l : List UInt8) : (bstr l).toList = l := by
  rw [ByteArray.toList, ba_loop _ _ 0 [] rfl]
  simp [bstr]

theorem equal_c (l m : List UInt8) : PC Try.prog 44 [.sl false 1 (bys l), .sl false 1 (bys m)] (.val (.bool (decide (l = m)))) := by
  refine PC.of_body (by simp only [push_cast]) Try.func44 rfl (by rw [Try.ntmps44]; simp) ?_
  refine AWp.regionS fun K hK => ?_; simp only [push_cast, reduceIte, Nat.reduceEqDiff, Nat.reduceLT, Nat.reduceAdd, Nat.reduceSub, Nat.reduceMul, Nat.reduceLeDiff, Nat.reducePow, Int.reduceLT, Int.reduceToNat, reduceCtorEq, Int.reduceNeg, Int.reduceEq, Nat.reduceBEq, Nat.reduceBNe, Int.reduceBEq, Int.reduceBNe, String.reduceEq]
  refine ARun2.nil (hK _ ?_); clear hK K
  refine AWp.regionS fun K hK => ?_; simp only [push_cast, reduceIte, Nat.reduceEqDiff, Nat.reduceLT, Nat.reduceAdd, Nat.reduceSub, Nat.reduceMul, Nat.reduceLeDiff, Nat.reducePow, Int.reduceLT, Int.reduceToNat, reduceCtorEq, Int.reduceNeg, Int.reduceEq, Nat.reduceBEq, Nat.reduceBNe, Int.reduceBEq, Int.reduceBNe, String.reduceEq]
  refine ARun2.toStr rfl rfl Ytmcedkcehcacpaa.Facts.by25 (by first | (simp only [push_cast, reduceIte, Nat.reduceEqDiff, Nat.reduceLT, Nat.reduceAdd, Nat.reduceSub, Nat.reduceMul, Nat.reduceLeDiff, Nat.reducePow, Int.reduceLT, Int.reduceToNat, reduceCtorEq, Int.reduceNeg, Int.reduceEq, Nat.reduceBEq, Nat.reduceBNe, Int.reduceBEq, Int.reduceBNe, String.reduceEq]; done) | (simp only [push_cast, reduceIte, Nat.reduceEqDiff, Nat.reduceLT, Nat.reduceAdd, Nat.reduceSub, Nat.reduceMul, Nat.reduceLeDiff, Nat.reducePow, Int.reduceLT, Int.reduceToNat, reduceCtorEq, Int.reduceNeg, Int.reduceEq, Nat.reduceBEq, Nat.reduceBNe, Int.reduceBEq, Int.reduceBNe, String.reduceEq]; rfl)) (by first | (simp only [push_cast, reduceIte, Nat.reduceEqDiff, Nat.reduceLT, Nat.reduceAdd, Nat.reduceSub, Nat.reduceMul, Nat.reduceLeDiff, Nat.reducePow, Int.reduceLT, Int.reduceToNat, reduceCtorEq, Int.reduceNeg, Int.reduceEq, Nat.reduceBEq, Nat.reduceBNe, Int.reduceBEq, Int.reduceBNe, String.reduceEq]; done) | (simp only [push_cast, reduceIte, Nat.reduceEqDiff, Nat.reduceLT, Nat.reduceAdd, Nat.reduceSub, Nat.reduceMul, Nat.reduceLeDiff, Nat.reducePow, Int.reduceLT, Int.reduceToNat, reduceCtorEq, Int.reduceNeg, Int.reduceEq, Nat.reduceBEq, Nat.reduceBNe, Int.reduceBEq, Int.reduceBNe, String.reduceEq]; rfl)) ?_
  refine ARun2.go ?_; simp only [push_cast, reduceIte, Nat.reduceEqDiff, Nat.reduceLT, Nat.reduceAdd, Nat.reduceSub, Nat.reduceMul, Nat.reduceLeDiff, Nat.reducePow, Int.reduceLT, Int.reduceToNat, reduceCtorEq, Int.reduceNeg, Int.reduceEq, Nat.reduceBEq, Nat.reduceBNe, Int.reduceBEq, Int.reduceBNe, String.reduceEq]
  refine ARun2.toStr rfl rfl Ytmcedkcehcacpaa.Facts.by25 (by first | (simp only [push_cast, reduceIte, Nat.reduceEqDiff, Nat.reduceLT, Nat.reduceAdd, Nat.reduceSub, Nat.reduceMul, Nat.reduceLeDiff, Nat.reducePow, Int.reduceLT, Int.reduceToNat, reduceCtorEq, Int.reduceNeg, Int.reduceEq, Nat.reduceBEq, Nat.reduceBNe, Int.reduceBEq, Int.reduceBNe, String.reduceEq]; done) | (simp only [push_cast, reduceIte, Nat.reduceEqDiff, Nat.reduceLT, Nat.reduceAdd, Nat.reduceSub, Nat.reduceMul, Nat.reduceLeDiff, Nat.reducePow, Int.reduceLT, Int.reduceToNat, reduceCtorEq, Int.reduceNeg, Int.reduceEq, Nat.reduceBEq, Nat.reduceBNe, Int.reduceBEq, Int.reduceBNe, String.reduceEq]; rfl)) (by first | (simp only [push_cast, reduceIte, Nat.reduceEqDiff, Nat.reduceLT, Nat.reduceAdd, Nat.reduceSub, Nat.reduceMul, Nat.reduceLeDiff, Nat.reducePow, Int.reduceLT, Int.reduceToNat, reduceCtorEq, Int.reduceNeg, Int.reduceEq, Nat.reduceBEq, Nat.reduceBNe, Int.reduceBEq, Int.reduceBNe, String.reduceEq]; done) | (simp only [push_cast, reduceIte, Nat.reduceEqDiff, Nat.reduceLT, Nat.reduceAdd, Nat.reduceSub, Nat.reduceMul, Nat.reduceLeDiff, Nat.reducePow, Int.reduceLT, Int.reduceToNat, reduceCtorEq, Int.reduceNeg, Int.reduceEq, Nat.reduceBEq, Nat.reduceBNe, Int.reduceBEq, Int.reduceBNe, String.reduceEq]; rfl)) ?_
  refine ARun2.go ?_; simp only [push_cast, reduceIte, Nat.reduceEqDiff, Nat.reduceLT, Nat.reduceAdd, Nat.reduceSub, Nat.reduceMul, Nat.reduceLeDiff, Nat.reducePow, Int.reduceLT, Int.reduceToNat, reduceCtorEq, Int.reduceNeg, Int.reduceEq, Nat.reduceBEq, Nat.reduceBNe, Int.reduceBEq, Int.reduceBNe, String.reduceEq]
  rw [bstr_list, bstr_list]
  refine ARun2.nil (hK _ ?_); clear hK K
  refine AWp.ret ⟨_, rfl, ?_⟩
  simp only [push_cast, reduceIte, Nat.reduceEqDiff, Nat.reduceLT, Nat.reduceAdd, Nat.reduceSub, Nat.reduceMul, Nat.reduceLeDiff, Nat.reducePow, Int.reduceLT, Int.reduceToNat, reduceCtorEq, Int.reduceNeg, Int.reduceEq, Nat.reduceBEq, Nat.reduceBNe, Int.reduceBEq, Int.reduceBNe, String.reduceEq]
  congr 2
  by_cases h : l = m <;> simp [h]
end Go.Proofs.Ytmcedkcehcacpaa.C

/- Nodes and forms, as values. -/
set_option linter.unusedVariables false
set_option linter.unusedSimpArgs false
namespace Go.Abs

inductive GNode where
  | mk (ty : Nat) (data : List UInt8) (kids : List GNode)
namespace GNode
def ty : GNode → Nat | .mk t _ _ => t
def data : GNode → List UInt8 | .mk _ d _ => d
def kids : GNode → List GNode | .mk _ _ k => k
def zero : GNode := .mk 0 [] []
instance : Inhabited GNode := ⟨zero⟩
end GNode

abbrev u16 (n : Nat) : AV := .val (.int .u16 (N n))
abbrev u8 (n : Nat) : AV := .val (.int .u8 (N n))
abbrev bool (b : Bool) : AV := .val (.bool b)
attribute [push_cast] u16 u8 bool

mutual
def nodeA (b : Bool) : GNode → AV
  | .mk t d k => .agg [u16 t, .sl b 1 (bys d), .sl b 3 (nodesA b k)]
def nodesA (b : Bool) : List GNode → List AV
  | [] => []
  | n :: l => nodeA b n :: nodesA b l
end

@[push_cast] theorem nodeA_eq (b : Bool) (n : GNode) : nodeA b n = .agg [u16 n.ty, .sl b 1 (bys n.data), .sl b 3 (nodesA b n.kids)] := by
  cases n; simp [nodeA, GNode.ty, GNode.data, GNode.kids]
theorem nodesA_map (b : Bool) : ∀ l : List GNode, nodesA b l = l.map (nodeA b)
  | [] => by simp [nodesA]
  | n :: l => by rw [nodesA, nodesA_map b l]; rfl
@[push_cast] theorem nodesA_len (b : Bool) (l : List GNode) : (nodesA b l).length = l.length := by rw [nodesA_map]; simp
theorem nodesA_get (b : Bool) (l : List GNode) (i : Nat) : (nodesA b l)[i]? = l[i]?.map (nodeA b) := by rw [nodesA_map]; simp
theorem nodesA_at (b : Bool) (l : List GNode) (i : Nat) (h : i < l.length) : (nodesA b l)[i]? = some (nodeA b l[i]) := by rw [nodesA_get, List.getElem?_eq_getElem h]; rfl
theorem nodesA_head (b : Bool) (l : List GNode) (h : 0 < l.length) : (nodesA b l)[0]? = some (nodeA b (l.headD default)) := by
  cases l with
  | nil => simp at h
  | cons n l => simp [nodesA]
@[push_cast] theorem nodesA_nil (b : Bool) : nodesA b [] = [] := by simp [nodesA]
@[push_cast] theorem nodesA_cons (b : Bool) (n : GNode) (l : List GNode) : nodesA b (n :: l) = nodeA b n :: nodesA b l := by simp [nodesA]

mutual
theorem nodeA_hand (ids : List Nat) (b : Bool) : ∀ n : GNode, (nodeA b n).hand ids = nodeA false n
  | .mk t d k => by simp only [nodeA, AV.hand, AV.handL, bys_hand, nodesA_hand ids b k]
theorem nodesA_hand (ids : List Nat) (b : Bool) : ∀ l : List GNode, AV.handL ids (nodesA b l) = nodesA false l
  | [] => by simp [nodesA, AV.handL]
  | n :: l => by simp only [nodesA, AV.handL, nodeA_hand ids b n, nodesA_hand ids b l]
end
attribute [push_cast] nodesA_hand
mutual
theorem nodeA_ids (p : Nat → Bool) (b : Bool) : ∀ n : GNode, (nodeA b n).idsOk p = true
  | .mk t d k => by simp only [nodeA, AV.idsOk, AV.idsOkL, bys_ids, nodesA_ids p b k, Bool.and_true]
theorem nodesA_ids (p : Nat → Bool) (b : Bool) : ∀ l : List GNode, AV.idsOkL p (nodesA b l) = true
  | [] => by simp [nodesA, AV.idsOkL]
  | n :: l => by simp only [nodesA, AV.idsOkL, nodeA_ids p b n, nodesA_ids p b l, Bool.and_true]
end
attribute [push_cast] nodesA_ids
mutual
theorem nodeA_pl : ∀ n : GNode, (nodeA false n).pl = true
  | .mk t d k => by simp only [nodeA, AV.pl, AV.plL, bys_pl, nodesA_pl k, Bool.and_true, Bool.not_false]
theorem nodesA_pl : ∀ l : List GNode, AV.plL (nodesA false l) = true
  | [] => by simp [nodesA, AV.plL]
  | n :: l => by simp only [nodesA, AV.plL, nodeA_pl n, nodesA_pl l, Bool.and_true]
end
attribute [push_cast] nodesA_pl
theorem nodesA_flat {b : Bool} {l : List GNode} {y : AV} (hy : y ∈ nodesA b l) : y.cells.length = 3 ∧ ∀ c ∈ y.cells, c.one = true := by
  rw [nodesA_map, List.mem_map] at hy
  obtain ⟨n, _, rfl⟩ := hy
  rw [nodeA_eq]; simp [AV.cells, AV.one, Value.oneCell']

/-- the form of a type -/
structure ShForm where
  cls : Nat
  ty : Nat
  name : ByteArray
  least : Nat
  most : Nat
  unit : Nat
  kids : Nat

@[push_cast] def formA (f : ShForm) : AV := .agg [nat f.cls, u16 f.ty, .val (.string f.name), nat f.least, nat f.most, nat f.unit, nat f.kids]
end Go.Abs

/- shape: contracts. -/
set_option linter.unusedVariables false
set_option linter.unusedSimpArgs false
namespace Go.Proofs.Ytmcedkcehcacpaa.C
open Go.Abs

/-- the class, the least and the greatest number of nodes inside -/
def insideN (k : Nat) : Nat × Nat × Nat :=
  if k = 1 ∨ k = 4 then (1, 1, 1) else if k = 2 then (1, 1, 16384) else if k = 3 then (2, 1, 16384) else (0, 0, 0)

theorem inside_c (k : Nat) (hk : k < 2 ^ 60) : PC Try.prog 59 [nat k] (.tup [nat (insideN k).1, nat (insideN k).2.1, nat (insideN k).2.2]) := by
  refine PC.of_bodyW (by simp only [push_cast]) Try.func59 rfl (by rw [Try.ntmps59]; simp) ?_
  refine AWp.regionW ?_
  refine AWp.seqK fun K1 hK1 => ?_
  refine AWp.regionW ?_
  refine AWp.block ?_
  refine AWp.seqK fun K2 hK2 => ?_
  refine AWp.regionW ?_
  refine AWp.condLM (fun c0 => ?_) (fun c0 => ?_)
  · skip
    refine AWp.skip ?_
    refine hK2 _ ?_
    refine AWp.condT ?_
    refine AWp.regionW ?_
    refine AWp.ret ?_
    try simp only [thenQ, blockQ]
    refine bodyQ.m ?_
    clear hK2 K2 hK1 K1
    simp_all [insideN]
    first | done | exact Hand.go
  · skip
    refine AWp.regionV ?_
    refine hK2 _ ?_
    refine AWp.condLM (fun c1 => ?_) (fun c1 => ?_)
    · skip
      refine AWp.regionW ?_
      refine AWp.ret ?_
      try simp only [thenQ, blockQ]
      refine bodyQ.m ?_
      clear hK2 K2 hK1 K1
      simp_all [insideN]
      first | done | exact Hand.go
    · skip
      refine AWp.regionW ?_
      refine AWp.condLM (fun c2 => ?_) (fun c2 => ?_)
      · skip
        refine AWp.regionW ?_
        refine AWp.ret ?_
        try simp only [thenQ, blockQ]
        refine bodyQ.m ?_
        clear hK2 K2 hK1 K1
        simp_all [insideN]
        first | done | exact Hand.go
      · skip
        refine AWp.regionW ?_
        refine AWp.condLM (fun c3 => ?_) (fun c3 => ?_)
        · skip
          refine AWp.regionW ?_
          refine AWp.ret ?_
          try simp only [thenQ, blockQ]
          refine bodyQ.m ?_
          clear hK2 K2 hK1 K1
          simp_all [insideN]
          first | done | exact Hand.go
        · skip
          refine AWp.skip ?_
          refine hK1 _ ?_
          refine AWp.regionW ?_
          refine AWp.ret ?_
          try simp only [thenQ, blockQ]
          refine bodyQ.m ?_
          clear hK2 K2 hK1 K1
          simp_all [insideN]
          first | done | exact Hand.go

/-- does a number of bytes fit? -/
def fitsN (f : ShForm) (n : Nat) : Bool := decide (f.least ≤ n) && decide (n ≤ f.most) && ((n - f.least) % f.unit == 0)

theorem fits_c (f : ShForm) (n : Nat) (hn : n < 2 ^ 60) (hl : f.least < 2 ^ 60) (hu : 0 < f.unit) (hu2 : f.unit < 2 ^ 60) : PC Try.prog 56 [formA f, nat n] (bool (fitsN f n)) := by
  refine PC.of_bodyW (by simp only [push_cast]) Try.func56 rfl (by rw [Try.ntmps56]; simp) ?_
  refine AWp.regionW ?_
  refine AWp.regionA fun K1 hK1 => ?_
  refine ARun.segm 5 fun KS hKS => ?_
  refine ARun2.endm (hKS _ ?_); clear hKS KS
  apply ARun.grpM 4 4 true 13 [1, 2, 9]
  · intro g4 KG hKG
    refine ARun2.gom ?_
    exact ARun2.endm (hKG _ Le.grpM)
  refine ARun.segm 2 fun KS hKS => ?_
  refine ARun2.endm (hKS _ ?_); clear hKS KS
  apply ARun.grpM 8 10 true 23 [15]
  · intro g10 KG hKG
    have hle : f.least ≤ n := by simp at g10; omega
    refine ARun2.gom ?_
    exact ARun2.endm (hKG _ Le.grpM)
  refine ARun2.gom ?_
  refine ARun2.endm (hK1 _ ?_)
  refine AWp.ret ?_
  try simp only [thenQ, blockQ]
  refine bodyQ.m ?_
  clear hK1 K1
  simp only [fitsN]
  first | done | exact Hand.go

/-- are the nodes inside as a form wants them? -/
def kidsOk (f : ShForm) (l : List GNode) : Bool :=
  decide ((insideN f.kids).2.1 ≤ l.length) && decide (l.length ≤ (insideN f.kids).2.2) && (f.kids != 4 || (l.headD default).ty == 5 || (l.headD default).ty == 6)

theorem kids_c (f : ShForm) (l : List GNode) (hl : l.length < 2 ^ 60) (hf : f.kids < 2 ^ 60) : PC Try.prog 57 [formA f, .sl false 3 (nodesA false l)] (bool (kidsOk f l)) := by
  refine PC.of_bodyW (by simp only [push_cast]) Try.func57 rfl (by rw [Try.ntmps57]; simp) ?_
  refine AWp.regionW ?_
  refine AWp.regionM fun K1 hK1 => ?_
  refine ARun2.callM (inside_c f.kids hf) ?_
  refine ARun2.endm (hK1 _ ?_)
  refine AWp.regionA fun K2 hK2 => ?_
  refine ARun.segm 5 fun KS hKS => ?_
  refine ARun2.endm (hKS _ ?_); clear hKS KS
  apply ARun.grpM 4 4 true 23 [1, 2, 19]
  · intro g4 KG hKG
    refine ARun2.gom ?_
    exact ARun2.endm (hKG _ Le.grpM)
  refine ARun.segm 2 fun KS hKS => ?_
  refine ARun2.endm (hKS _ ?_); clear hKS KS
  apply ARun.grpM 17 10 true 42 [25]
  · intro g10 KG hKG
    refine ARun.segm 4 fun KS hKS => ?_
    refine ARun2.endm (hKS _ ?_); clear hKS KS
    apply ARun.grpM 5 14 false 34 [1, 25, 29]
    · intro g14 KG hKG
      have hne : 0 < l.length := by
        have hk : f.kids = 4 := by simpa using g14
        simp [insideN, hk] at g10
        omega
      refine ARun2.gom ?_
      refine ARun2.indexM (0) (nodeA false (l.headD default)) ?_ ?_
      · exact nodesA_head false l hne
      exact ARun2.endm (hKG _ Le.grpM)
    refine ARun.segm 2 fun KS hKS => ?_
    refine ARun2.endm (hKS _ ?_); clear hKS KS
    apply ARun.grpM 5 21 false 41 [25, 36]
    · intro g21 KG hKG
      have hne : 0 < l.length := by
        have hk : f.kids = 4 := by simp at g21; exact g21.1
        simp [insideN, hk] at g10
        omega
      refine ARun2.gom ?_
      refine ARun2.indexM (0) (nodeA false (l.headD default)) ?_ ?_
      · exact nodesA_head false l hne
      exact ARun2.endm (hKG _ Le.grpM)
    refine ARun2.gom ?_
    exact ARun2.endm (hKG _ Le.grpM)
  refine ARun2.gom ?_
  refine ARun2.endm (hK2 _ ?_)
  refine AWp.ret ?_
  try simp only [thenQ, blockQ]
  refine bodyQ.m ?_
  clear hK2 K2 hK1 K1
  simp only [kidsOk, Bool.or_assoc]
  first | done | exact Hand.go
end Go.Proofs.Ytmcedkcehcacpaa.C

/- wire: the cursor. -/
set_option linter.unusedVariables false
set_option linter.unusedSimpArgs false
namespace Go.Proofs.Ytmcedkcehcacpaa.C
open Go.Abs

/-- a cursor: its bytes, and how many were read -/
abbrev cur (l : List UInt8) (i : Nat) : Ob := .box 111 [.sl false 1 (bys l), nat i]

theorem new_c (l : List UInt8) (hl : l.length ≤ 2 ^ 40) : OC Try.prog 63 [.sl false 1 (bys l)] [] (.ptr 0 0) [cur l 0] := by
  refine OC.of_body [0] (by intro k hk; simp at hk) Try.func63 rfl (by rw [Try.ntmps63]; simp) ?_
  refine AWp.regionW ?_
  refine AWp.regionM fun K1 hK1 => ?_
  refine ARun2.callM (clone_c l hl) ?_
  refine ARun2.endm (hK1 _ ?_)
  refine AWp.ret ?_
  try simp only [thenQ, blockQ]
  refine bodyQ.m ?_
  clear hK1 K1
  refine endO.m ?_ ?_
  · rfl
  · skip
    first | done | exact Hand.go

theorem left_c (l : List UInt8) (i : Nat) (hi : i ≤ l.length) (hl : l.length ≤ 2 ^ 40) : OC Try.prog 69 [.ptr 0 0] [cur l i] (nat (l.length - i)) [cur l i] := by
  refine OC.of_body [0] (by intro k hk; simp at hk; subst hk; rfl) Try.func69 rfl (by rw [Try.ntmps69]; simp) ?_
  refine AWp.regionW ?_
  refine AWp.seqK fun K1 hK1 => ?_
  refine AWp.regionW ?_
  refine AWp.condF ?_
  refine AWp.skip ?_
  refine hK1 _ ?_
  refine AWp.drS [[(0, none)], [(5, some 0)], [(6, some 1)], [(7, some 2)], [(8, some 3)], [(0, none)], [(10, some 5)], [(11, some 6)], [(12, some 7)], [(9, some 4), (13, some 8)], [(14, some 9)]] fun G hG => ?_
  refine Dr.sim ?_
  try simp only [List.cons_append, List.nil_append]
  refine Dr.sim ?_
  try simp only [List.cons_append, List.nil_append]
  refine Dr.sim ?_
  try simp only [List.cons_append, List.nil_append]
  refine Dr.sim ?_
  try simp only [List.cons_append, List.nil_append]
  refine Dr.sim ?_
  try simp only [List.cons_append, List.nil_append]
  refine Dr.sim ?_
  try simp only [List.cons_append, List.nil_append]
  refine Dr.sim ?_
  try simp only [List.cons_append, List.nil_append]
  refine Dr.sim ?_
  try simp only [List.cons_append, List.nil_append]
  refine Dr.sim ?_
  try simp only [List.cons_append, List.nil_append]
  refine Dr.sim ?_
  try simp only [List.cons_append, List.nil_append]
  refine Dr.sim ?_
  try simp only [List.cons_append, List.nil_append]
  refine Dr.finM (n := 11) [(2, 10)] [] hG Ytmcedkcehcacpaa.Facts.mixed fun KD hKD => ?_
  refine ARun2.endm (hKD _ ?_); clear hKD KD hG G
  refine AWp.ret ?_
  try simp only [thenQ, blockQ]
  refine bodyQ.m ?_
  clear hK1 K1
  refine endO.m ?_ ?_
  · rfl
  · skip
    try simp only [bys_len]
    first | done | exact Hand.go

/-- the next number of a cursor -/
def peekN (k : Nat) (l : List UInt8) (i : Nat) : Nat := if i + k ≤ l.length then beN ((l.drop i).take k) else 0

theorem peek_c (k : Nat) (l : List UInt8) (i : Nat) (hk : k = 1 ∨ k = 2 ∨ k = 4) (hi : i ≤ l.length) (hl : l.length ≤ 2 ^ 40) :
    OC Try.prog 67 [.ptr 0 0, nat k] [cur l i] (.tup [u32 (peekN k l i), bool (decide (i + k ≤ l.length))]) [cur l i] := by
  have hr : (k == 1 || k == 2 || k == 4) = true := by rcases hk with rfl | rfl | rfl <;> rfl
  have hil : (l.drop i).length = l.length - i := List.length_drop
  refine OC.of_body [0] (by intro k hk; simp at hk; subst hk; rfl) Try.func67 rfl (by rw [Try.ntmps67]; simp) ?_
  refine AWp.regionW ?_
  refine AWp.seqK fun K1 hK1 => ?_
  refine AWp.regionM fun K2 hK2 => ?_
  refine ARun2.callM (hr ▸ wire_right k) ?_
  refine ARun2.callOM [0] (left_c l i hi hl) ?_
  refine ARun2.endm (hK2 _ ?_)
  refine AWp.condLM (fun c0 => ?_) (fun c0 => ?_)
  · skip
    have hno : ¬ i + k ≤ l.length := by simp at c0; omega
    refine AWp.regionW ?_
    refine AWp.ret ?_
    try simp only [thenQ, blockQ]
    refine bodyQ.m ?_
    clear hK2 K2 hK1 K1
    refine endO.m ?_ ?_
    · rfl
    · skip
      simp only [peekN, hno, if_false, decide_false]
      first | done | exact Hand.go
  · skip
    have hyes : i + k ≤ l.length := by simp at c0; omega
    have hpos : 0 < (l.drop i).length / k := by rw [hil]; exact Nat.div_pos (by omega) (by omega)
    refine AWp.skip ?_
    refine hK1 _ ?_
    refine AWp.seqK fun K3 hK3 => ?_
    refine AWp.drS [[(1, none)], [(0, none)], [(17, some 1)], [(18, some 2)], [(19, some 3)], [(0, none)], [(21, some 5)], [(22, some 6)], [(23, some 7)], [(20, some 4), (24, some 8)], [(16, some 0), (25, some 9)]] fun G hG => ?_
    refine Dr.sim ?_
    try simp only [List.cons_append, List.nil_append]
    refine Dr.sim ?_
    try simp only [List.cons_append, List.nil_append]
    refine Dr.sim ?_
    try simp only [List.cons_append, List.nil_append]
    refine Dr.sim ?_
    try simp only [List.cons_append, List.nil_append]
    refine Dr.sim ?_
    try simp only [List.cons_append, List.nil_append]
    refine Dr.sim ?_
    try simp only [List.cons_append, List.nil_append]
    refine Dr.sim ?_
    try simp only [List.cons_append, List.nil_append]
    refine Dr.sim ?_
    try simp only [List.cons_append, List.nil_append]
    refine Dr.sim ?_
    try simp only [List.cons_append, List.nil_append]
    refine Dr.sliceLo (i) ?_ ?_
    · rw [bys_len]; omega
    try simp only [List.cons_append, List.nil_append]
    refine Dr.call (numbers_c k (l.drop i)) ?_
    try simp only [List.cons_append, List.nil_append]
    refine Dr.finM (n := 11) [(26, 10)] [4, 5] hG Ytmcedkcehcacpaa.Facts.mixed fun KD hKD => ?_
    refine ARun2.endm (hKD _ ?_); clear hKD KD hG G
    refine AWp.block ?_
    refine AWp.rangeFuncM (numbers_iter k (l.drop i) hk (by omega)) [4, 5] (fun pre ob tr go => pre = [] ∧ ob = [cur l i, .box 23 [.val (.int .u32 0)], .box 4 [.val (.bool false)]]) (fun e ob tr go => e = .ret ∧ ob = [cur l i, .box 23 [u32 (beN ((l.drop i).take k))], .box 4 [.val (.bool true)]]) ?_ ?_ ?_ ?_ ?_
    · exact numYs_ps _
    · exact ⟨rfl, rfl⟩
    · rintro pre x post ob tr go hxs ⟨rfl, rfl⟩
      have hx : (numYs k (l.drop i))[0]? = some x := by rw [hxs]; rfl
      rw [numYs_get hpos] at hx
      simp only [Option.some.injEq, Nat.zero_mul, List.drop_zero] at hx
      subst hx
      refine AWp.regionV ?_
      change AWp _ _ _ _
      refine AWp.block ?_
      refine AWp.regionW ?_
      refine AWp.ret ?_
      try simp only [thenQ, blockQ]
      refine ⟨_, Le.refl _, ?_⟩
      exact ⟨rfl, rfl⟩
    · rintro ob tr go df ⟨h, _⟩
      have := congrArg List.length h
      rw [numYs_len, nums_len] at this
      simp at this
      omega
    · rintro e ob tr go df ⟨rfl, rfl⟩
      refine bodyQ.m ?_
      refine endO.m ?_ ?_
      · rfl
      · simp only [peekN, hyes, if_true, decide_true]
        exact Hand.go

/-- a number is read -/
theorem number_c (k : Nat) (l : List UInt8) (i : Nat) (hk : k = 1 ∨ k = 2 ∨ k = 4) (hi : i ≤ l.length) (hl : l.length ≤ 2 ^ 40) :
    OC Try.prog 64 [.ptr 0 0, nat k] [cur l i] (.tup [u32 (peekN k l i), bool (decide (i + k ≤ l.length))]) [cur l (if i + k ≤ l.length then i + k else i)] := by
  refine OC.of_body [0] (by intro k hk; simp at hk; subst hk; rfl) Try.func64 rfl (by rw [Try.ntmps64]; simp) ?_
  refine AWp.regionW ?_
  refine AWp.regionM fun K1 hK1 => ?_
  refine ARun2.callOM [0] (peek_c k l i hk hi hl) ?_
  refine ARun2.endm (hK1 _ ?_)
  refine AWp.seqK fun K2 hK2 => ?_
  refine AWp.regionW ?_
  refine AWp.condLM (fun c0 => ?_) (fun c0 => ?_)
  · skip
    have hyes : i + k ≤ l.length := of_decide_eq_true c0
    refine AWp.regionV ?_
    refine hK2 _ ?_
    refine AWp.regionW ?_
    refine AWp.ret ?_
    try simp only [thenQ, blockQ]
    refine bodyQ.m ?_
    clear hK2 K2 hK1 K1
    refine endO.m ?_ ?_
    · first | (rw [if_pos (by assumption)]) | (rw [if_neg (by assumption)])
    · skip
      first | done | exact Hand.go
  · skip
    have hno : ¬ i + k ≤ l.length := of_decide_eq_false c0
    refine AWp.skip ?_
    refine hK2 _ ?_
    refine AWp.regionW ?_
    refine AWp.ret ?_
    try simp only [thenQ, blockQ]
    refine bodyQ.m ?_
    clear hK2 K2 hK1 K1
    refine endO.m ?_ ?_
    · first | (rw [if_pos (by assumption)]) | (rw [if_neg (by assumption)])
    · skip
      first | done | exact Hand.go
end Go.Proofs.Ytmcedkcehcacpaa.C

/- node: counted, Size. -/
set_option linter.unusedVariables false
set_option linter.unusedSimpArgs false
namespace Go.Proofs.Ytmcedkcehcacpaa.C
open Go.Abs

theorem peekN_lt (k : Nat) (l : List UInt8) (i : Nat) (hk : k ≤ 4) : peekN k l i < 2 ^ 32 := by
  unfold peekN
  split
  · refine Nat.lt_of_lt_of_le (beN_lt _) ?_
    have h : ((l.drop i).take k).length ≤ 4 := Nat.le_trans (List.length_take_le _ _) hk
    exact Nat.le_trans (Nat.pow_le_pow_right (by omega) h) (by decide)
  · decide

/-- is the number in the data wrong? -/
def countedN (c t : Nat) (d : List UInt8) : Bool := c == 2 && (t == 2 && (!decide (4 ≤ d.length) || peekN 4 d 0 != (d.length - 4) / 2))

theorem counted_c (c t : Nat) (d : List UInt8) (hl : d.length ≤ 2 ^ 40) : PC Try.prog 58 [nat c, u16 t, .sl false 1 (bys d)] (bool (countedN c t d)) := by
  have hp := peekN_lt 4 d 0 (by omega)
  refine PC.of_bodyW (by simp only [push_cast]) Try.func58 rfl (by rw [Try.ntmps58]; simp) ?_
  refine AWp.regionW ?_
  refine AWp.regionM fun K1 hK1 => ?_
  refine ARun2.callOM [] (new_c d hl) ?_
  refine ARun2.callOM [0] (number_c 4 d 0 (by omega) (by omega) hl) ?_
  refine ARun2.endm (hK1 _ ?_)
  refine AWp.regionA fun K2 hK2 => ?_
  refine ARun.segm 3 fun KS hKS => ?_
  refine ARun2.endm (hKS _ ?_); clear hKS KS
  apply ARun.grpM 2 2 true 19 [2, 7, 8, 17]
  · intro g2 KG hKG
    refine ARun2.gom ?_
    exact ARun2.endm (hKG _ Le.grpM)
  refine ARun.segm 2 fun KS hKS => ?_
  refine ARun2.endm (hKS _ ?_); clear hKS KS
  apply ARun.grpM 11 6 true 32 [21]
  · intro g6 KG hKG
    refine ARun.segm 3 fun KS hKS => ?_
    refine ARun2.endm (hKS _ ?_); clear hKS KS
    apply ARun.grpM 7 9 false 31 [21, 24]
    · intro g9 KG hKG
      have h4 : 4 ≤ d.length := by simpa using g9
      refine ARun2.gom ?_
      exact ARun2.endm (hKG _ Le.grpM)
    refine ARun2.gom ?_
    exact ARun2.endm (hKG _ Le.grpM)
  refine ARun2.gom ?_
  refine ARun2.endm (hK2 _ ?_)
  refine AWp.ret ?_
  try simp only [thenQ, blockQ]
  refine bodyQ.m ?_
  clear hK2 K2 hK1 K1
  simp only [countedN, Nat.zero_add, Bool.and_assoc]
  first | done | exact Hand.go

/-- the size of a list of frames' values -/
def tlvSize (l : List Nat) : Nat := sumUp 0 (l.map (4 + ·))

/-- a frame -/
structure Frm where
  ty : Nat
  val : List UInt8
@[push_cast] def frmA (b : Bool) (f : Frm) : AV := .agg [u16 f.ty, .sl b 1 (bys f.val)]
def frmsA (b : Bool) (l : List Frm) : List AV := l.map (frmA b)
@[push_cast] theorem frmsA_len (b : Bool) (l : List Frm) : (frmsA b l).length = l.length := by simp [frmsA]
theorem frmsA_at (b : Bool) (l : List Frm) (i : Nat) (h : i < l.length) : (frmsA b l)[i]? = some (frmA b l[i]) := by simp [frmsA, h]
@[push_cast] theorem frmsA_ids (b : Bool) (p : Nat → Bool) (l : List Frm) : AV.idsOkL p (frmsA b l) = true := by
  rw [AV.idsOkL_iff]; intro x hx; simp only [frmsA, List.mem_map] at hx; obtain ⟨f, _, rfl⟩ := hx; simp [frmA, AV.idsOk, AV.idsOkL, bys_ids]
@[push_cast] theorem frmsA_hand (ids : List Nat) (b : Bool) (l : List Frm) : AV.handL ids (frmsA b l) = frmsA false l := by
  rw [AV.handL_map]; simp [frmsA, frmA, AV.hand, AV.handL, bys_hand]

theorem sizes_le : ∀ (l : List Nat) (s : Nat), sumUp s l ≤ s + l.sum + 3 * l.length
  | [], s => by simp [sumUp]
  | n :: l, s => by
    have := sizes_le l (upN s + n)
    have h := gapN_le s
    simp only [sumUp, List.sum_cons, List.length_cons, upN] at *
    omega

theorem tlvSize_c (l : List Frm) (h : tlvSize (l.map fun f => f.val.length) < 2 ^ 61) (hl : l.length ≤ 2 ^ 40) (hv : ∀ f ∈ l, f.val.length ≤ 2 ^ 40) : PC Try.prog 65 [.sl false 2 (frmsA false l)] (nat (tlvSize (l.map fun f => f.val.length))) := by
  refine PC.of_bodyW (by simp only [push_cast]) Try.func65 rfl (by rw [Try.ntmps65]; simp) ?_
  refine AWp.regionW ?_
  refine AWp.regionW ?_
  refine AWp.seqK fun K1 hK1 => ?_
  refine AWp.regionW ?_
  refine AWp.block ?_
  -- SLOTS THAT TURN AND ARE NOT TOLD: [3]
  refine AWp.nilOwn 3 3 1 (by simp only [push_cast, reduceIte, Nat.reduceEqDiff, Nat.reduceLT, Nat.reduceAdd, Nat.reduceSub, Nat.reduceMul, Nat.reduceLeDiff, Nat.reducePow, Int.reduceLT, Int.reduceToNat, reduceCtorEq, Int.reduceNeg, Int.reduceEq, Nat.reduceBEq, Nat.reduceBNe, Int.reduceBEq, Int.reduceBNe, String.reduceEq]) ?_
  simp only [push_cast, reduceIte, Nat.reduceEqDiff, Nat.reduceLT, Nat.reduceAdd, Nat.reduceSub, Nat.reduceMul, Nat.reduceLeDiff, Nat.reducePow, Int.reduceLT, Int.reduceToNat, reduceCtorEq, Int.reduceNeg, Int.reduceEq, Nat.reduceBEq, Nat.reduceBNe, Int.reduceBEq, Int.reduceBNe, String.reduceEq]
  refine AWp.loopK [3, 6, 7] (fun (i : Nat) => [(8, nat i)]) (fun i => [.row 3 1 (nats ((l.take i).map fun f => 4 + f.val.length))]) (fun i => i ≤ l.length) (fun i => l.length - i) (0) ?_ (Nat.zero_le _) ?_
  · skip
    refine Le.m 1 ?_ ?_
    · try simp only [push_cast, reduceIte, Nat.reduceEqDiff, Nat.reduceLT, Nat.reduceAdd, Nat.reduceSub, Nat.reduceMul, Nat.reduceLeDiff, Nat.reducePow, Int.reduceLT, Int.reduceToNat, reduceCtorEq, Int.reduceNeg, Int.reduceEq, Nat.reduceBEq, Nat.reduceBNe, Int.reduceBEq, Int.reduceBNe, String.reduceEq]
      try simp (disch := omega) only [w_nat, w_add, w_addl, w_addr, w_sub, w_subl, w_mul, w_mull, w_mulr, w_u32, w_u16, w_u8, w_u32a, N_zero]
      first | done | skip
      rfl
    · first | (simp only [push_cast, reduceIte, Nat.reduceEqDiff, Nat.reduceLT, Nat.reduceAdd, Nat.reduceSub, Nat.reduceMul, Nat.reduceLeDiff, Nat.reducePow, Int.reduceLT, Int.reduceToNat, reduceCtorEq, Int.reduceNeg, Int.reduceEq, Nat.reduceBEq, Nat.reduceBNe, Int.reduceBEq, Int.reduceBNe, String.reduceEq]; first | done | rfl | (simp (disch := omega) only [w_nat, w_add, w_addl, w_addr, w_sub, w_subl, w_mul, w_mull, w_mulr, w_u32, w_u16, w_u8, w_u32a, N_zero]; first | done | rfl))
  · intro i hi K2 hK2
    refine AWp.regionW ?_
    refine AWp.seqK fun K3 hK3 => ?_
    refine AWp.condLM (fun c0 => ?_) (fun c0 => ?_)
    · skip
      have hil : i < l.length := by simpa using c0
      have hvi := hv l[i] (List.getElem_mem hil)
      refine AWp.skip ?_
      refine hK3 _ ?_
      refine AWp.seqK fun K4 hK4 => ?_
      refine AWp.block ?_
      refine AWp.regionM fun K5 hK5 => ?_
      refine ARun2.indexM (i) (frmA false l[i]) ?_ ?_
      · exact frmsA_at _ _ _ hil
      refine ARun2.endm (hK5 _ ?_)
      refine AWp.regionN fun K6 hK6 => ?_
      refine ARun2.appendM ?_ ?_ ?_
      · rw [Ytmcedkcehcacpaa.Facts.eb112, nats_len, List.length_map, List.length_take, List.length_cons, List.length_nil]; omega
      · rw [nats_len, List.length_map, List.length_take, List.length_cons, List.length_nil]; omega
      refine ARun2.endm (hK6 _ ?_)
      refine hK4 _ ?_
      refine AWp.regionV ?_
      refine hK2 _ (i + 1) (by omega) (by omega) ?_
      refine Le.m 1 ?_ ?_
      · try simp only [push_cast, reduceIte, Nat.reduceEqDiff, Nat.reduceLT, Nat.reduceAdd, Nat.reduceSub, Nat.reduceMul, Nat.reduceLeDiff, Nat.reducePow, Int.reduceLT, Int.reduceToNat, reduceCtorEq, Int.reduceNeg, Int.reduceEq, Nat.reduceBEq, Nat.reduceBNe, Int.reduceBEq, Int.reduceBNe, String.reduceEq]
        try simp (disch := omega) only [w_nat, w_add, w_addl, w_addr, w_sub, w_subl, w_mul, w_mull, w_mulr, w_u32, w_u16, w_u8, w_u32a, N_zero]
        first | done | skip
        rw [List.take_succ_eq_append_getElem hil, List.map_append]; simp [nats]
      · first | (simp only [push_cast, reduceIte, Nat.reduceEqDiff, Nat.reduceLT, Nat.reduceAdd, Nat.reduceSub, Nat.reduceMul, Nat.reduceLeDiff, Nat.reducePow, Int.reduceLT, Int.reduceToNat, reduceCtorEq, Int.reduceNeg, Int.reduceEq, Nat.reduceBEq, Nat.reduceBNe, Int.reduceBEq, Int.reduceBNe, String.reduceEq]; first | done | rfl | (simp (disch := omega) only [w_nat, w_add, w_addl, w_addr, w_sub, w_subl, w_mul, w_mull, w_mulr, w_u32, w_u16, w_u8, w_u32a, N_zero]; first | done | rfl))
    · skip
      have hil : i = l.length := by simp at c0; omega
      subst hil
      refine AWp.exit ?_
      simp only [thenQ, blockQ, reduceIte, Nat.reduceEqDiff]
      refine hK1 _ ?_
      refine AWp.pub 0 rfl (Nat.le_refl _) ?_
      simp only [push_cast, reduceIte, Nat.reduceEqDiff, Nat.reduceLT, Nat.reduceAdd, Nat.reduceSub, Nat.reduceMul, Nat.reduceLeDiff, Nat.reducePow, Int.reduceLT, Int.reduceToNat, reduceCtorEq, Int.reduceNeg, Int.reduceEq, Nat.reduceBEq, Nat.reduceBNe, Int.reduceBEq, Int.reduceBNe, String.reduceEq, List.take_length]
      refine AWp.regionM fun K7 hK7 => ?_
      refine ARun2.callM (pad_sizes (l.map fun f => 4 + f.val.length) (by simpa [tlvSize, List.map_map, Function.comp_def] using h) (by rw [List.length_map]; omega)) ?_
      refine ARun2.endm (hK7 _ ?_)
      refine AWp.ret ?_
      try simp only [thenQ, blockQ]
      refine bodyQ.m ?_
      clear hK7 K7 hK3 K3 hK2 K2 hK1 K1
      simp only [tlvSize, List.map_map, Function.comp_def]
      first | done | exact Hand.go
end Go.Proofs.Ytmcedkcehcacpaa.C

/- shape: the table of forms. -/
set_option linter.unusedVariables false
set_option linter.unusedSimpArgs false
namespace Go.Abs
/-- the parameters' forms: type, name, least, most, unit, kids -/
def paramForms : List ShForm := [⟨0, 1, ⟨#[104, 101, 97, 114, 116, 98, 101, 97, 116, 45, 105, 110, 102, 111]⟩, 0, 65531, 1, 0⟩,
  ⟨0, 5, ⟨#[105, 112, 118, 52]⟩, 4, 4, 1, 0⟩,
  ⟨0, 6, ⟨#[105, 112, 118, 54]⟩, 16, 16, 1, 0⟩,
  ⟨0, 7, ⟨#[115, 116, 97, 116, 101, 45, 99, 111, 111, 107, 105, 101]⟩, 0, 65531, 1, 0⟩,
  ⟨0, 8, ⟨#[117, 110, 114, 101, 99, 111, 103, 110, 105, 122, 101, 100]⟩, 0, 0, 1, 1⟩,
  ⟨0, 9, ⟨#[99, 111, 111, 107, 105, 101, 45, 112, 114, 101, 115, 101, 114, 118, 97, 116, 105, 118, 101]⟩, 4, 4, 1, 0⟩,
  ⟨0, 11, ⟨#[104, 111, 115, 116, 45, 110, 97, 109, 101]⟩, 1, 65531, 1, 0⟩,
  ⟨0, 12, ⟨#[97, 100, 100, 114, 101, 115, 115, 45, 116, 121, 112, 101, 115]⟩, 2, 65531, 2, 0⟩,
  ⟨0, 13, ⟨#[111, 117, 116, 103, 111, 105, 110, 103, 45, 114, 101, 115, 101, 116]⟩, 12, 65531, 2, 0⟩,
  ⟨0, 14, ⟨#[105, 110, 99, 111, 109, 105, 110, 103, 45, 114, 101, 115, 101, 116]⟩, 4, 65531, 2, 0⟩,
  ⟨0, 15, ⟨#[116, 115, 110, 45, 114, 101, 115, 101, 116]⟩, 4, 4, 1, 0⟩,
  ⟨0, 16, ⟨#[114, 101, 99, 111, 110, 102, 105, 103, 45, 114, 101, 115, 112, 111, 110, 115, 101]⟩, 8, 16, 8, 0⟩,
  ⟨0, 17, ⟨#[97, 100, 100, 45, 111, 117, 116, 103, 111, 105, 110, 103]⟩, 8, 8, 1, 0⟩,
  ⟨0, 18, ⟨#[97, 100, 100, 45, 105, 110, 99, 111, 109, 105, 110, 103]⟩, 8, 8, 1, 0⟩,
  ⟨0, 32768, ⟨#[101, 99, 110]⟩, 0, 0, 1, 0⟩,
  ⟨0, 32770, ⟨#[114, 97, 110, 100, 111, 109]⟩, 1, 65531, 1, 0⟩,
  ⟨0, 32771, ⟨#[99, 104, 117, 110, 107, 45, 108, 105, 115, 116]⟩, 0, 65531, 1, 0⟩,
  ⟨0, 32772, ⟨#[104, 109, 97, 99, 45, 97, 108, 103, 111, 114, 105, 116, 104, 109, 115]⟩, 2, 65531, 2, 0⟩,
  ⟨0, 32773, ⟨#[112, 97, 100, 100, 105, 110, 103]⟩, 0, 65531, 1, 0⟩,
  ⟨0, 32776, ⟨#[101, 120, 116, 101, 110, 115, 105, 111, 110, 115]⟩, 0, 65531, 1, 0⟩,
  ⟨0, 49152, ⟨#[102, 111, 114, 119, 97, 114, 100, 45, 116, 115, 110]⟩, 0, 0, 1, 0⟩,
  ⟨0, 49153, ⟨#[97, 100, 100, 45, 105, 112]⟩, 4, 4, 1, 4⟩,
  ⟨0, 49154, ⟨#[100, 101, 108, 101, 116, 101, 45, 105, 112]⟩, 4, 4, 1, 4⟩,
  ⟨0, 49155, ⟨#[101, 114, 114, 111, 114, 45, 105, 110, 100, 105, 99, 97, 116, 105, 111, 110]⟩, 4, 4, 1, 3⟩,
  ⟨0, 49156, ⟨#[115, 101, 116, 45, 112, 114, 105, 109, 97, 114, 121]⟩, 4, 4, 1, 4⟩,
  ⟨0, 49157, ⟨#[115, 117, 99, 99, 101, 115, 115]⟩, 4, 4, 1, 0⟩,
  ⟨0, 49158, ⟨#[97, 100, 97, 112, 116, 97, 116, 105, 111, 110]⟩, 4, 4, 1, 0⟩]
/-- the causes' forms -/
def causeForms : List ShForm := [⟨0, 1, ⟨#[105, 110, 118, 97, 108, 105, 100, 45, 115, 116, 114, 101, 97, 109]⟩, 4, 4, 1, 0⟩,
  ⟨0, 2, ⟨#[109, 105, 115, 115, 105, 110, 103, 45, 112, 97, 114, 97, 109, 101, 116, 101, 114]⟩, 6, 65531, 2, 0⟩,
  ⟨0, 3, ⟨#[115, 116, 97, 108, 101, 45, 99, 111, 111, 107, 105, 101]⟩, 4, 4, 1, 0⟩,
  ⟨0, 4, ⟨#[111, 117, 116, 45, 111, 102, 45, 114, 101, 115, 111, 117, 114, 99, 101]⟩, 0, 0, 1, 0⟩,
  ⟨0, 5, ⟨#[117, 110, 114, 101, 115, 111, 108, 118, 97, 98, 108, 101, 45, 97, 100, 100, 114, 101, 115, 115]⟩, 0, 0, 1, 1⟩,
  ⟨0, 6, ⟨#[117, 110, 114, 101, 99, 111, 103, 110, 105, 122, 101, 100, 45, 99, 104, 117, 110, 107]⟩, 4, 65531, 1, 0⟩,
  ⟨0, 7, ⟨#[105, 110, 118, 97, 108, 105, 100, 45, 112, 97, 114, 97, 109, 101, 116, 101, 114]⟩, 0, 0, 1, 0⟩,
  ⟨0, 8, ⟨#[117, 110, 114, 101, 99, 111, 103, 110, 105, 122, 101, 100, 45, 112, 97, 114, 97, 109, 101, 116, 101, 114, 115]⟩, 0, 0, 1, 2⟩,
  ⟨0, 9, ⟨#[110, 111, 45, 117, 115, 101, 114, 45, 100, 97, 116, 97]⟩, 4, 4, 1, 0⟩,
  ⟨0, 10, ⟨#[99, 111, 111, 107, 105, 101, 45, 119, 104, 105, 108, 101, 45, 115, 104, 117, 116, 116, 105, 110, 103, 45, 100, 111, 119, 110]⟩, 0, 0, 1, 0⟩,
  ⟨0, 11, ⟨#[114, 101, 115, 116, 97, 114, 116]⟩, 0, 0, 1, 2⟩,
  ⟨0, 12, ⟨#[117, 115, 101, 114, 45, 97, 98, 111, 114, 116]⟩, 0, 65531, 1, 0⟩,
  ⟨0, 13, ⟨#[112, 114, 111, 116, 111, 99, 111, 108, 45, 118, 105, 111, 108, 97, 116, 105, 111, 110]⟩, 0, 65531, 1, 0⟩,
  ⟨0, 160, ⟨#[100, 101, 108, 101, 116, 101, 45, 108, 97, 115, 116, 45, 97, 100, 100, 114, 101, 115, 115]⟩, 0, 0, 1, 1⟩,
  ⟨0, 161, ⟨#[114, 101, 115, 111, 117, 114, 99, 101, 45, 115, 104, 111, 114, 116, 97, 103, 101]⟩, 0, 65531, 1, 0⟩,
  ⟨0, 162, ⟨#[100, 101, 108, 101, 116, 101, 45, 115, 111, 117, 114, 99, 101, 45, 97, 100, 100, 114, 101, 115, 115]⟩, 0, 0, 1, 1⟩,
  ⟨0, 163, ⟨#[105, 108, 108, 101, 103, 97, 108, 45, 97, 115, 99, 111, 110, 102, 45, 97, 99, 107]⟩, 0, 65531, 1, 0⟩,
  ⟨0, 164, ⟨#[110, 111, 45, 97, 117, 116, 104, 111, 114, 105, 122, 97, 116, 105, 111, 110]⟩, 0, 65531, 1, 0⟩,
  ⟨0, 261, ⟨#[117, 110, 115, 117, 112, 112, 111, 114, 116, 101, 100, 45, 104, 109, 97, 99]⟩, 2, 2, 1, 0⟩]
def formsN : Nat → List ShForm
  | 1 => paramForms
  | 2 => causeForms
  | _ => []
def formsA (l : List ShForm) : List AV := l.map formA
@[push_cast] theorem formsA_len (l : List ShForm) : (formsA l).length = l.length := by simp [formsA]
theorem formsA_at (l : List ShForm) (i : Nat) (h : i < l.length) : (formsA l)[i]? = some (formA l[i]) := by simp [formsA, h]
@[push_cast] theorem formsA_ids (p : Nat → Bool) (l : List ShForm) : AV.idsOkL p (formsA l) = true := by
  rw [AV.idsOkL_iff]; intro x hx; simp only [formsA, List.mem_map] at hx; obtain ⟨f, _, rfl⟩ := hx; rfl
@[push_cast] theorem formsA_hand (ids : List Nat) (l : List ShForm) : AV.handL ids (formsA l) = formsA l := by
  rw [AV.handL_map, formsA, List.map_map]; rfl

/-- a form as a value -/
def formV (c : Nat) (f : ShForm) : Value := .agg #[.int .i64 (N c), .int .u16 (N f.ty), .string f.name, .int .i64 (N f.least), .int .i64 (N f.most), .int .i64 (N f.unit), .int .i64 (N f.kids)]
def entryV (c : Nat) (f : ShForm) : Value × Value := (.int .u16 (N f.ty), formV c f)
def zeroForm : ShForm := ⟨0, 0, ⟨#[]⟩, 0, 0, 0, 0⟩
/-- the form of a type; a zero form if there is none -/
def shapeOf (c t : Nat) : ShForm := (((formsN c).find? fun f => f.ty == t).map fun f => { f with cls := c }).getD zeroForm
def shapeHas (c t : Nat) : Bool := ((formsN c).find? fun f => f.ty == t).isSome

theorem ofV_formV (c : Nat) (f : ShForm) : ofV (formV c f) = formA { f with cls := c } := rfl
theorem mpFree_entries (c n : Nat) : ∀ l : List ShForm, (∀ f ∈ l, f.ty ≠ n) → mpFree .u16 (N n) (l.map (entryV c)) = true
  | [], _ => rfl
  | f :: l, h => by
    simp only [List.map_cons, entryV, mpFree, Bool.and_eq_true, decide_eq_true_eq]
    refine ⟨⟨trivial, ?_⟩, mpFree_entries c n l fun g hg => h g (by simp [hg])⟩
    rw [ne_eq, N_inj]; exact h f (by simp)
theorem mpFind_entries (c n : Nat) : ∀ l : List ShForm, mpFind .u16 (N n) (l.map (entryV c)) = some ((l.find? fun f => f.ty == n).map (formV c))
  | [] => rfl
  | f :: l => by
    simp only [List.map_cons, entryV, mpFind, if_true, N_inj, List.find?_cons]
    by_cases h : f.ty = n
    · simp [h]
    · have h' : (f.ty == n) = false := by simpa using h
      simp only [h, if_false, h', mpFind_entries c n l]
theorem forms_nodup (c : Nat) : ((formsN c).map (·.ty)).Nodup := by
  match c with
  | 0 => decide
  | 1 => decide
  | 2 => decide
  | _ + 3 => exact List.nodup_nil
theorem forms_free (c i : Nat) (h : i < (formsN c).length) : ∀ f ∈ (formsN c).take i, f.ty ≠ (formsN c)[i].ty := by
  intro f hf he
  have hn := forms_nodup c
  obtain ⟨j, hj, rfl⟩ := List.getElem_of_mem hf
  rw [List.length_take] at hj
  rw [List.getElem_take] at he
  have h1 : j = i := (List.getElem_inj (xs := (formsN c).map (·.ty)) (i := j) (j := i) (h₀ := by simp; omega) (h₁ := by simpa using h) hn).1 (by simpa using he)
  omega
end Go.Abs
namespace Go.Proofs.Ytmcedkcehcacpaa.C
open Go.Abs
set_option maxRecDepth 100000 in
set_option maxHeartbeats 1000000 in
theorem table_c : PC Try.prog 66 [] (.agg [.val (.slice none 0 0), .sl false 7 (formsA paramForms), .sl false 7 (formsA causeForms)]) := by
  refine PC.of_bodyW (by simp only [push_cast]) Try.func66 rfl (by rw [Try.ntmps66]; simp) ?_
  refine AWp.regionW ?_
  refine AWp.regionW ?_
  refine AWp.ret ?_
  try simp only [thenQ, blockQ]
  refine bodyQ.m ?_
  simp only [formsA, paramForms, causeForms, List.map_cons, List.map_nil]
  first | done | exact Hand.go

theorem forms_c (c : Nat) (hc : c = 1 ∨ c = 2) : OC Try.prog 62 [nat c] [] (.own 0) [.mp ((formsN c).map (entryV c))] := by
  have hc3 : c < 3 := by omega
  have hl : (formsN c).length < 2 ^ 60 := by rcases hc with rfl | rfl <;> decide
  refine OC.of_body [0] (by intro k hk; simp at hk) Try.func62 rfl (by rw [Try.ntmps62]; simp) ?_
  refine AWp.regionW ?_
  refine AWp.regionM fun K1 hK1 => ?_
  refine ARun2.makeMapM ?_
  refine ARun2.endm (hK1 _ ?_)
  refine AWp.seqK fun K2 hK2 => ?_
  refine AWp.regionM fun K3 hK3 => ?_
  refine ARun2.callM (table_c) ?_
  refine ARun2.endm (hK3 _ ?_)
  refine AWp.condF ?_ (by simp only [push_cast, reduceIte, Nat.reduceEqDiff, Nat.reduceLT, Nat.reduceAdd, Nat.reduceSub, Nat.reduceMul, Nat.reduceLeDiff, Nat.reducePow, Int.reduceLT, Int.reduceToNat, reduceCtorEq, Int.reduceNeg, Int.reduceEq, Nat.reduceBEq, Nat.reduceBNe, Int.reduceBEq, Int.reduceBNe, String.reduceEq]; rw [decide_eq_false (by omega)])
  refine AWp.skip ?_
  refine hK2 _ ?_
  refine AWp.seqK fun K4 hK4 => ?_
  refine AWp.regionM fun K5 hK5 => ?_
  refine ARun2.callM (table_c) ?_
  refine ARun2.aindexM (c) (.sl false 7 (formsA (formsN c))) ?_ ?_
  · rw [Ytmcedkcehcacpaa.Facts.tk107]; rcases hc with rfl | rfl <;> rfl
  refine ARun2.endm (hK5 _ ?_)
  refine AWp.block ?_
  refine AWp.loopK [0, 3, 18, 19] (fun (i : Nat) => [(20, nat i)]) (fun i => [.mp (((formsN c).take i).map (entryV c))]) (fun i => i ≤ (formsN c).length) (fun i => (formsN c).length - i) (0) ?_ (Nat.zero_le _) ?_
  · skip
    refine Le.m 1 ?_ ?_
    · first | with_reducible rfl | (simp only [push_cast, reduceIte, Nat.reduceEqDiff, Nat.reduceLT, Nat.reduceAdd, Nat.reduceSub, Nat.reduceMul, Nat.reduceLeDiff, Nat.reducePow, Int.reduceLT, Int.reduceToNat, reduceCtorEq, Int.reduceNeg, Int.reduceEq, Nat.reduceBEq, Nat.reduceBNe, Int.reduceBEq, Int.reduceBNe, String.reduceEq]; first | done | rfl | (simp (disch := omega) only [w_nat, w_add, w_addl, w_addr, w_sub, w_subl, w_mul, w_mull, w_mulr, w_u32, w_u16, w_u8, w_u32a, N_zero]; first | done | rfl))
    · first | (simp only [push_cast, reduceIte, Nat.reduceEqDiff, Nat.reduceLT, Nat.reduceAdd, Nat.reduceSub, Nat.reduceMul, Nat.reduceLeDiff, Nat.reducePow, Int.reduceLT, Int.reduceToNat, reduceCtorEq, Int.reduceNeg, Int.reduceEq, Nat.reduceBEq, Nat.reduceBNe, Int.reduceBEq, Int.reduceBNe, String.reduceEq]; first | done | rfl | (simp (disch := omega) only [w_nat, w_add, w_addl, w_addr, w_sub, w_subl, w_mul, w_mull, w_mulr, w_u32, w_u16, w_u8, w_u32a, N_zero]; first | done | rfl))
  · intro i hi K6 hK6
    refine AWp.regionW ?_
    refine AWp.seqK fun K7 hK7 => ?_
    refine AWp.condLM (fun c1 => ?_) (fun c1 => ?_)
    · skip
      have hil : i < (formsN c).length := by simpa using c1
      refine AWp.skip ?_
      refine hK7 _ ?_
      refine AWp.seqK fun K8 hK8 => ?_
      refine AWp.block ?_
      refine AWp.regionM fun K9 hK9 => ?_
      refine ARun2.indexM (i) (formA (formsN c)[i]) ?_ ?_
      · exact formsA_at _ _ hil
      refine ARun2.endm (hK9 _ ?_)
      refine AWp.regionW ?_
      refine AWp.regionN fun K10 hK10 => ?_
      refine ARun2.mapUpdateM ?_ ?_
      · exact mpFree_entries c _ _ (forms_free c i hil)
      refine ARun2.endm (hK10 _ ?_)
      refine hK8 _ ?_
      refine AWp.regionV ?_
      refine hK6 _ (i + 1) (by omega) (by omega) ?_
      refine Le.m 1 ?_ ?_
      · try simp only [push_cast, reduceIte, Nat.reduceEqDiff, Nat.reduceLT, Nat.reduceAdd, Nat.reduceSub, Nat.reduceMul, Nat.reduceLeDiff, Nat.reducePow, Int.reduceLT, Int.reduceToNat, reduceCtorEq, Int.reduceNeg, Int.reduceEq, Nat.reduceBEq, Nat.reduceBNe, Int.reduceBEq, Int.reduceBNe, String.reduceEq]
        try simp (disch := omega) only [w_nat, w_add, w_addl, w_addr, w_sub, w_subl, w_mul, w_mull, w_mulr, w_u32, w_u16, w_u8, w_u32a, N_zero]
        first | done | skip
        rw [List.take_succ_eq_append_getElem hil, List.map_append]; rfl
      · first | (simp only [push_cast, reduceIte, Nat.reduceEqDiff, Nat.reduceLT, Nat.reduceAdd, Nat.reduceSub, Nat.reduceMul, Nat.reduceLeDiff, Nat.reducePow, Int.reduceLT, Int.reduceToNat, reduceCtorEq, Int.reduceNeg, Int.reduceEq, Nat.reduceBEq, Nat.reduceBNe, Int.reduceBEq, Int.reduceBNe, String.reduceEq]; first | done | rfl | (simp (disch := omega) only [w_nat, w_add, w_addl, w_addr, w_sub, w_subl, w_mul, w_mull, w_mulr, w_u32, w_u16, w_u8, w_u32a, N_zero]; first | done | rfl))
    · skip
      have hil : i = (formsN c).length := by simp at c1; omega
      refine AWp.exit ?_
      simp only [thenQ, blockQ, reduceIte, Nat.reduceEqDiff]
      refine hK4 _ ?_
      refine AWp.regionW ?_
      refine AWp.ret ?_
      try simp only [thenQ, blockQ]
      refine bodyQ.m ?_
      clear hK7 K7 hK6 K6 hK5 K5 hK4 K4 hK3 K3 hK2 K2 hK1 K1
      refine endO.m ?_ ?_
      · rw [hil, List.take_length]
      · skip
        first | done | exact Hand.go

theorem of_c (c t : Nat) (hc : c = 1 ∨ c = 2) : PC Try.prog 55 [nat c, u16 t] (.tup [formA (shapeOf c t), bool (shapeHas c t)]) := by
  refine PC.of_bodyW (by simp only [push_cast]) Try.func55 rfl (by rw [Try.ntmps55]; simp) ?_
  refine AWp.regionW ?_
  refine AWp.regionM fun K1 hK1 => ?_
  refine ARun2.callOM [] (forms_c c hc) ?_
  refine ARun2.lookupM (((formsN c).find? fun f => f.ty == t).map (formV c)) (formA (shapeOf c t)) ?_ ?_ ?_
  · exact mpFind_entries c t _
  · simp only [shapeOf]; cases (formsN c).find? (fun f => f.ty == t) <;> rfl
  refine ARun2.endm (hK1 _ ?_)
  refine AWp.regionW ?_
  refine AWp.ret ?_
  try simp only [thenQ, blockQ]
  refine bodyQ.m ?_
  clear hK1 K1
  simp only [shapeHas, Option.isSome_map]
  first | done | exact Hand.go
end Go.Proofs.Ytmcedkcehcacpaa.C

/- node: Size. -/
set_option linter.unusedVariables false
set_option linter.unusedSimpArgs false
namespace Go.Abs
mutual
def GNode.wt : GNode → Nat
  | .mk _ _ k => wts k + 1
def wts : List GNode → Nat
  | [] => 0
  | n :: l => n.wt + wts l
end
theorem GNode.wt_eq (n : GNode) : n.wt = wts n.kids + 1 := by cases n; simp [GNode.wt, GNode.kids]
theorem wts_mem : ∀ {l : List GNode} {n : GNode}, n ∈ l → n.wt ≤ wts l
  | [], n, h => by simp at h
  | m :: l, n, h => by
    rcases List.mem_cons.1 h with h | h
    · subst h; simp only [wts]; omega
    · have := wts_mem h; simp only [wts]; omega
theorem kids_lt {l : List GNode} {n : GNode} (h : n ∈ l) : wts n.kids < wts l := by
  have := wts_mem h; rw [GNode.wt_eq] at this; omega
end Go.Abs

namespace Go.Proofs.Ytmcedkcehcacpaa.C
open Go.Abs
mutual
/-- the length of a node's value -/
def vlen : GNode → Nat
  | .mk _ d k => d.length + tlvSize (nLens k)
def nLens : List GNode → List Nat
  | [] => []
  | n :: l => vlen n :: nLens l
end
/-- the size of a list of nodes -/
def nSize (l : List GNode) : Nat := tlvSize (nLens l)
theorem nLens_map : ∀ l : List GNode, nLens l = l.map vlen
  | [] => by simp [nLens]
  | n :: l => by simp [nLens, nLens_map l]
theorem vlen_eq (n : GNode) : vlen n = n.data.length + nSize n.kids := by cases n; simp [vlen, nSize, GNode.data, GNode.kids]

theorem sumUp_mem : ∀ {l : List Nat} {s n : Nat}, n ∈ l → n ≤ sumUp s l
  | [], s, n, h => by simp at h
  | m :: l, s, n, h => by
    simp only [sumUp]
    rcases List.mem_cons.1 h with h | h
    · subst h; exact Nat.le_trans (by omega) (le_sumUp l _)
    · exact sumUp_mem h
theorem sumUp_len : ∀ (l : List Nat) (s : Nat), s + 4 * l.length ≤ sumUp s (l.map (4 + ·))
  | [], s => by simp [sumUp]
  | n :: l, s => by
    have := sumUp_len l (upN s + (4 + n))
    simp only [List.map_cons, sumUp, List.length_cons, upN] at *
    omega
theorem tlvSize_mem {l : List Nat} {n : Nat} (h : n ∈ l) : 4 + n ≤ tlvSize l := sumUp_mem (List.mem_map.2 ⟨n, h, rfl⟩)
theorem tlvSize_len (l : List Nat) : 4 * l.length ≤ tlvSize l := by have := sumUp_len l 0; simpa [tlvSize] using this
theorem vlen_mem {l : List GNode} {n : GNode} (h : n ∈ l) : 4 + vlen n ≤ nSize l := tlvSize_mem (by rw [nLens_map]; exact List.mem_map.2 ⟨n, h, rfl⟩)
theorem nSize_len (l : List GNode) : 4 * l.length ≤ nSize l := by have := tlvSize_len (nLens l); rw [nLens_map, List.length_map] at this; rw [nSize, nLens_map]; exact this
theorem nSize_kids {l : List GNode} {n : GNode} (h : n ∈ l) : nSize n.kids ≤ nSize l := by have := vlen_mem h; rw [vlen_eq] at this; omega

/-- a frame of zeros in place of a node -/
def zf (n : GNode) : Frm := ⟨0, List.replicate (vlen n) 0⟩

theorem size_step (w : Nat) (ih : ∀ l : List GNode, wts l < w → nSize l ≤ 2 ^ 30 → PC Try.prog 60 [.sl false 3 (nodesA false l)] (nat (nSize l))) (l : List GNode) (hw : wts l ≤ w) (hs : nSize l ≤ 2 ^ 30) :
    PC Try.prog 60 [.sl false 3 (nodesA false l)] (nat (nSize l)) := by
  have hlen := nSize_len l
  refine PC.of_bodyW (by simp only [push_cast]) Try.func60 rfl (by rw [Try.ntmps60]; simp) ?_
  refine AWp.regionW ?_
  refine AWp.regionW ?_
  refine AWp.seqK fun K1 hK1 => ?_
  refine AWp.regionW ?_
  refine AWp.block ?_
  -- SLOTS THAT TURN AND ARE NOT TOLD: [3]
  refine AWp.nilOwn 3 105 2 (by simp only [push_cast, reduceIte, Nat.reduceEqDiff, Nat.reduceLT, Nat.reduceAdd, Nat.reduceSub, Nat.reduceMul, Nat.reduceLeDiff, Nat.reducePow, Int.reduceLT, Int.reduceToNat, reduceCtorEq, Int.reduceNeg, Int.reduceEq, Nat.reduceBEq, Nat.reduceBNe, Int.reduceBEq, Int.reduceBNe, String.reduceEq]) ?_
  simp only [push_cast, reduceIte, Nat.reduceEqDiff, Nat.reduceLT, Nat.reduceAdd, Nat.reduceSub, Nat.reduceMul, Nat.reduceLeDiff, Nat.reducePow, Int.reduceLT, Int.reduceToNat, reduceCtorEq, Int.reduceNeg, Int.reduceEq, Nat.reduceBEq, Nat.reduceBNe, Int.reduceBEq, Int.reduceBNe, String.reduceEq]
  refine AWp.loopK [3, 6, 7] (fun (i : Nat) => [(8, nat i)]) (fun i => [.row 105 2 (frmsA true ((l.take i).map zf))]) (fun i => i ≤ l.length) (fun i => l.length - i) (0) ?_ (Nat.zero_le _) ?_
  · skip
    refine Le.m 1 ?_ ?_
    · try simp only [push_cast, reduceIte, Nat.reduceEqDiff, Nat.reduceLT, Nat.reduceAdd, Nat.reduceSub, Nat.reduceMul, Nat.reduceLeDiff, Nat.reducePow, Int.reduceLT, Int.reduceToNat, reduceCtorEq, Int.reduceNeg, Int.reduceEq, Nat.reduceBEq, Nat.reduceBNe, Int.reduceBEq, Int.reduceBNe, String.reduceEq]
      try simp (disch := omega) only [w_nat, w_add, w_addl, w_addr, w_sub, w_subl, w_mul, w_mull, w_mulr, w_u32, w_u16, w_u8, w_u32a, N_zero]
      first | done | skip
      rfl
    · first | (simp only [push_cast, reduceIte, Nat.reduceEqDiff, Nat.reduceLT, Nat.reduceAdd, Nat.reduceSub, Nat.reduceMul, Nat.reduceLeDiff, Nat.reducePow, Int.reduceLT, Int.reduceToNat, reduceCtorEq, Int.reduceNeg, Int.reduceEq, Nat.reduceBEq, Nat.reduceBNe, Int.reduceBEq, Int.reduceBNe, String.reduceEq]; first | done | rfl | (simp (disch := omega) only [w_nat, w_add, w_addl, w_addr, w_sub, w_subl, w_mul, w_mull, w_mulr, w_u32, w_u16, w_u8, w_u32a, N_zero]; first | done | rfl))
  · intro i hi K2 hK2
    refine AWp.regionW ?_
    refine AWp.seqK fun K3 hK3 => ?_
    refine AWp.condLM (fun c0 => ?_) (fun c0 => ?_)
    · skip
      have hil : i < l.length := by simpa using c0
      have hm := List.getElem_mem hil
      have hv := vlen_mem hm
      have he := vlen_eq l[i]
      have hk := nSize_kids hm
      refine AWp.skip ?_
      refine hK3 _ ?_
      refine AWp.seqK fun K4 hK4 => ?_
      refine AWp.block ?_
      refine AWp.regionM fun K5 hK5 => ?_
      refine ARun2.indexM (i) (nodeA false l[i]) ?_ ?_
      · exact nodesA_at _ _ _ hil
      refine ARun2.endm (hK5 _ ?_)
      refine AWp.drE [[(3, none)], [(5, none)], [(13, some 1)], [(14, some 2)], [(5, none)], [(16, some 4)], [(17, some 5)], [(15, some 3), (18, some 6)], [(19, some 7)], [(20, some 8)], [(21, some 9)]] fun G hG => ?_
      refine Dr.sim ?_
      try simp only [List.cons_append, List.nil_append]
      refine Dr.sim ?_
      try simp only [List.cons_append, List.nil_append]
      refine Dr.sim ?_
      try simp only [List.cons_append, List.nil_append]
      refine Dr.sim ?_
      try simp only [List.cons_append, List.nil_append]
      refine Dr.sim ?_
      try simp only [List.cons_append, List.nil_append]
      refine Dr.sim ?_
      try simp only [List.cons_append, List.nil_append]
      refine Dr.call (ih l[i].kids (by have := kids_lt hm; omega) (by omega)) ?_
      try simp only [List.cons_append, List.nil_append]
      refine Dr.sim ?_
      try simp only [List.cons_append, List.nil_append]
      rw [← he]
      refine Dr.make (vlen l[i]) ?_ ?_
      · omega
      try simp only [List.cons_append, List.nil_append]
      refine Dr.sim ?_
      try simp only [List.cons_append, List.nil_append]
      refine Dr.build ?_
      try simp only [List.cons_append, List.nil_append]
      refine Dr.finN (n := 11) [(12, 0), (22, 10)] [6, 7, 8] hG Ytmcedkcehcacpaa.Facts.mixed fun KD hKD => ?_
      refine ARun2.appendM ?_ ?_ ?_
      · rw [Ytmcedkcehcacpaa.Facts.eb103, frmsA_len, List.length_map, List.length_take, List.length_cons, List.length_nil]; omega
      · rw [frmsA_len, List.length_map, List.length_take, List.length_cons, List.length_nil]; omega
      refine ARun2.endm (hKD _ ?_); clear hKD KD hG G
      refine hK4 _ ?_
      refine AWp.regionV ?_
      refine hK2 _ (i + 1) (by omega) (by omega) ?_
      refine Le.m 1 ?_ ?_
      · try simp only [push_cast, reduceIte, Nat.reduceEqDiff, Nat.reduceLT, Nat.reduceAdd, Nat.reduceSub, Nat.reduceMul, Nat.reduceLeDiff, Nat.reducePow, Int.reduceLT, Int.reduceToNat, reduceCtorEq, Int.reduceNeg, Int.reduceEq, Nat.reduceBEq, Nat.reduceBNe, Int.reduceBEq, Int.reduceBNe, String.reduceEq]
        try simp (disch := omega) only [w_nat, w_add, w_addl, w_addr, w_sub, w_subl, w_mul, w_mull, w_mulr, w_u32, w_u16, w_u8, w_u32a, N_zero]
        first | done | skip
        rw [List.take_succ_eq_append_getElem hil, List.map_append]; simp [frmsA, frmA, zf, N]
      · first | (simp only [push_cast, reduceIte, Nat.reduceEqDiff, Nat.reduceLT, Nat.reduceAdd, Nat.reduceSub, Nat.reduceMul, Nat.reduceLeDiff, Nat.reducePow, Int.reduceLT, Int.reduceToNat, reduceCtorEq, Int.reduceNeg, Int.reduceEq, Nat.reduceBEq, Nat.reduceBNe, Int.reduceBEq, Int.reduceBNe, String.reduceEq]; first | done | rfl | (simp (disch := omega) only [w_nat, w_add, w_addl, w_addr, w_sub, w_subl, w_mul, w_mull, w_mulr, w_u32, w_u16, w_u8, w_u32a, N_zero]; first | done | rfl))
    · skip
      have hil : i = l.length := by simp at c0; omega
      subst hil
      refine AWp.exit ?_
      simp only [thenQ, blockQ, reduceIte, Nat.reduceEqDiff]
      refine hK1 _ ?_
      refine AWp.pub 0 rfl (Nat.le_refl _) ?_
      simp only [push_cast, reduceIte, Nat.reduceEqDiff, Nat.reduceLT, Nat.reduceAdd, Nat.reduceSub, Nat.reduceMul, Nat.reduceLeDiff, Nat.reducePow, Int.reduceLT, Int.reduceToNat, reduceCtorEq, Int.reduceNeg, Int.reduceEq, Nat.reduceBEq, Nat.reduceBNe, Int.reduceBEq, Int.reduceBNe, String.reduceEq, List.take_length]
      refine AWp.regionM fun K6 hK6 => ?_
      have hz : tlvSize ((l.map zf).map fun f => f.val.length) = nSize l := by rw [nSize, nLens_map]; simp [List.map_map, Function.comp_def, zf]
      refine ARun2.callM (tlvSize_c (l.map zf) (by have := hz; omega) (by rw [List.length_map]; omega) (by intro f hf; obtain ⟨n, hn, rfl⟩ := List.mem_map.1 hf; have := vlen_mem hn; simp [zf]; omega)) ?_
      refine ARun2.endm (hK6 _ ?_)
      refine AWp.ret ?_
      try simp only [thenQ, blockQ]
      refine bodyQ.m ?_
      clear hK6 K6 hK3 K3 hK2 K2 hK1 K1
      rw [hz]
      first | done | exact Hand.go

theorem size_w : ∀ (w : Nat) (l : List GNode), wts l ≤ w → nSize l ≤ 2 ^ 30 → PC Try.prog 60 [.sl false 3 (nodesA false l)] (nat (nSize l)) := by
  intro w
  induction w with
  | zero => exact size_step 0 (fun l h => by omega)
  | succ w ih => exact size_step (w + 1) (fun l h => ih l (by omega))
theorem size_c (l : List GNode) (hs : nSize l ≤ 2 ^ 30) : PC Try.prog 60 [.sl false 3 (nodesA false l)] (nat (nSize l)) := size_w _ l (Nat.le_refl _) hs
end Go.Proofs.Ytmcedkcehcacpaa.C

/- node: check. -/
set_option linter.unusedVariables false
set_option linter.unusedSimpArgs false
namespace Go.Proofs.Ytmcedkcehcacpaa.C
open Go.Abs

/-- an error that is a code; 0: none -/
def errA (e : Nat) : AV := bif e == 0 then .val .nilIface else .ifc 88 (.val (.int .i64 (N e)))
@[push_cast] theorem nilIs_err (e : Nat) : nilIs .ifc (errA e) = some (e == 0) := by
  unfold errA; cases e == 0 <;> rfl
@[push_cast] theorem err_ids (p : Nat → Bool) (e : Nat) : (errA e).idsOk p = true := by unfold errA; cases e == 0 <;> rfl
@[push_cast] theorem err_hand (ids : List Nat) (e : Nat) : (errA e).hand ids = errA e := by unfold errA; cases e == 0 <;> rfl
@[push_cast] theorem err_one (e : Nat) : (errA e).one = true := by unfold errA; cases e == 0 <;> rfl
@[push_cast] theorem err_flat (e : Nat) : (errA e).flat = true := by unfold errA; cases e == 0 <;> rfl
@[push_cast] theorem err_cells (e : Nat) : (errA e).cells = [errA e] := by unfold errA; cases e == 0 <;> rfl

/-- is the form of a node wrong? -/
def badN (c t len : Nat) (k : List GNode) : Bool :=
  (!shapeHas c t && decide (0 < k.length)) || (shapeHas c t && (!fitsN (shapeOf c t) len || !kidsOk (shapeOf c t) k))

mutual
/-- the code of a node's error; 0: none -/
def checkN (c dp : Nat) : GNode → Nat
  | .mk t d k =>
    if 4 < dp then 9 else if badN c t d.length k = true then 7 else if countedN c t d = true then 8
    else if checkL (insideN (shapeOf c t).kids).1 (dp + 1) k ≠ 0 then checkL (insideN (shapeOf c t).kids).1 (dp + 1) k
    else if 65535 < nSize [.mk t d k] then 4 else 0
/-- the first error of some nodes -/
def checkL (c dp : Nat) : List GNode → Nat
  | [] => 0
  | n :: l => if checkN c dp n ≠ 0 then checkN c dp n else checkL c dp l
end

theorem checkN_eq (c dp : Nat) (n : GNode) : checkN c dp n =
    if 4 < dp then 9 else if badN c n.ty n.data.length n.kids = true then 7 else if countedN c n.ty n.data = true then 8
    else if checkL (insideN (shapeOf c n.ty).kids).1 (dp + 1) n.kids ≠ 0 then checkL (insideN (shapeOf c n.ty).kids).1 (dp + 1) n.kids
    else if 65535 < nSize [n] then 4 else 0 := by
  cases n; simp only [checkN, GNode.ty, GNode.data, GNode.kids]; rfl

theorem checkL_snoc (c dp : Nat) (n : GNode) : ∀ l : List GNode, checkL c dp (l ++ [n]) = if checkL c dp l ≠ 0 then checkL c dp l else checkN c dp n
  | [] => by
    simp only [List.nil_append, checkL]
    by_cases h : checkN c dp n = 0 <;> simp [h]
  | m :: l => by
    simp only [List.cons_append, checkL, checkL_snoc c dp n l]
    by_cases h : checkN c dp m = 0 <;> simp [h]
theorem checkL_app (c dp : Nat) (r : List GNode) : ∀ l : List GNode, checkL c dp l ≠ 0 → checkL c dp (l ++ r) = checkL c dp l
  | [], h => by simp [checkL] at h
  | m :: l, h => by
    simp only [List.cons_append, checkL] at h ⊢
    by_cases hm : checkN c dp m = 0
    · simp only [hm, ne_eq, not_true_eq_false, if_false] at h ⊢
      exact checkL_app c dp r l h
    · simp [hm]

theorem checkL_at (c dp : Nat) (l : List GNode) (i : Nat) (hil : i < l.length) (h0 : checkL c dp (l.take i) = 0) (h : checkN c dp l[i] ≠ 0) : checkL c dp l = checkN c dp l[i] := by
  have e := checkL_snoc c dp l[i] (l.take i)
  rw [h0, ← List.take_succ_eq_append_getElem hil] at e
  simp only [ne_eq, not_true_eq_false, if_false] at e
  have e2 := checkL_app c dp (l.drop (i + 1)) (l.take (i + 1)) (by rw [e]; exact h)
  rw [List.take_append_drop] at e2
  exact e2.trans e

theorem form_ok (c t : Nat) (h : shapeHas c t = true) : 0 < (shapeOf c t).unit ∧ (shapeOf c t).unit < 2 ^ 60 ∧ (shapeOf c t).least < 2 ^ 60 := by
  have key : ∀ l : List ShForm, (∀ f ∈ l, 0 < f.unit ∧ f.unit < 2 ^ 60 ∧ f.least < 2 ^ 60) → (l.find? fun f => f.ty == t).isSome = true →
      0 < (((l.find? fun f => f.ty == t).map fun f => { f with cls := c }).getD zeroForm).unit ∧ (((l.find? fun f => f.ty == t).map fun f => { f with cls := c }).getD zeroForm).unit < 2 ^ 60 ∧ (((l.find? fun f => f.ty == t).map fun f => { f with cls := c }).getD zeroForm).least < 2 ^ 60 := by
    intro l hl hs
    cases hf : l.find? (fun f => f.ty == t) with
    | none => simp [hf] at hs
    | some f => simpa using hl f (List.mem_of_find?_eq_some hf)
  refine key (formsN c) ?_ h
  match c with
  | 0 => intro f hf; simp [formsN] at hf
  | 1 => decide
  | 2 => decide
  | _ + 3 => intro f hf; simp [formsN] at hf
theorem form_kids (c t : Nat) : (shapeOf c t).kids < 2 ^ 60 := by
  have key : ∀ l : List ShForm, (∀ f ∈ l, f.kids < 2 ^ 60) → (((l.find? fun f => f.ty == t).map fun f => { f with cls := c }).getD zeroForm).kids < 2 ^ 60 := by
    intro l hl
    cases hf : l.find? (fun f => f.ty == t) with
    | none => simp [zeroForm]
    | some f => simpa using hl f (List.mem_of_find?_eq_some hf)
  refine key (formsN c) ?_
  match c with
  | 0 => intro f hf; simp [formsN] at hf
  | 1 => decide
  | 2 => decide
  | _ + 3 => intro f hf; simp [formsN] at hf
/-- right nodes with nodes inside say what class these have -/
theorem inside_class (c t len : Nat) (k : List GNode) (h : badN c t len k = false) (hk : 0 < k.length) : (insideN (shapeOf c t).kids).1 = 1 ∨ (insideN (shapeOf c t).kids).1 = 2 := by
  unfold badN at h
  have hd : decide (0 < k.length) = true := by simpa using hk
  rw [hd] at h
  cases hs : shapeHas c t with
  | false => simp [hs] at h
  | true =>
    simp only [hs, Bool.not_true, Bool.false_and, Bool.false_or, Bool.true_and, Bool.or_eq_false_iff, Bool.not_eq_false'] at h
    have hkk := h.2
    unfold kidsOk insideN at hkk
    unfold insideN
    by_cases h1 : (shapeOf c t).kids = 1 ∨ (shapeOf c t).kids = 4
    · simp [h1]
    · by_cases h2 : (shapeOf c t).kids = 2
      · simp [h2]
      · by_cases h3 : (shapeOf c t).kids = 3
        · simp [h3]
        · simp [h1, h2, h3] at hkk
          rw [hkk.1] at hk
          simp at hk

theorem nSize_kids1 (n : GNode) : nSize n.kids ≤ nSize [n] := nSize_kids (by simp)
theorem nSize_one {l : List GNode} {n : GNode} (h : n ∈ l) : nSize [n] ≤ nSize l := by
  have := vlen_mem h
  have e : nSize [n] = 4 + vlen n := by simp [nSize, nLens, tlvSize, sumUp, upN, gapN]
  omega
theorem nSize_data (n : GNode) : n.data.length ≤ nSize [n] := by
  have e : nSize [n] = 4 + vlen n := by simp [nSize, nLens, tlvSize, sumUp, upN, gapN]
  rw [vlen_eq] at e; omega

theorem check_step (w : Nat) (ih : ∀ (c dp : Nat) (n : GNode), n.wt < w → (c = 1 ∨ c = 2) → dp < 2 ^ 60 → nSize [n] ≤ 2 ^ 30 → PC Try.prog 49 [nat c, nodeA false n, nat dp] (errA (checkN c dp n)))
    (c dp : Nat) (n : GNode) (hw : n.wt ≤ w) (hc : c = 1 ∨ c = 2) (hdp : dp < 2 ^ 60) (hs : nSize [n] ≤ 2 ^ 30) : PC Try.prog 49 [nat c, nodeA false n, nat dp] (errA (checkN c dp n)) := by
  have hkl := nSize_len n.kids
  have hk1 := nSize_kids1 n
  have hdl := nSize_data n
  refine PC.of_bodyW (by simp only [push_cast]) Try.func49 rfl (by rw [Try.ntmps49]; simp) ?_
  refine AWp.regionW ?_
  refine AWp.seqK fun K1 hK1 => ?_
  refine AWp.regionW ?_
  refine AWp.condLM (fun c0 => ?_) (fun c0 => ?_)
  · skip
    have h0 : 4 < dp := by simpa using c0
    refine AWp.regionW ?_
    refine AWp.ret ?_
    try simp only [thenQ, blockQ]
    refine bodyQ.m ?_
    clear hK1 K1
    rw [checkN_eq, if_pos h0]
    first | done | exact Hand.go
  · skip
    have h0 : ¬ 4 < dp := by simpa using c0
    refine AWp.skip ?_
    refine hK1 _ ?_
    refine AWp.regionM fun K2 hK2 => ?_
    refine ARun2.callM (of_c c n.ty hc) ?_
    refine ARun2.endm (hK2 _ ?_)
    refine AWp.seqK fun K3 hK3 => ?_
    refine AWp.block ?_
    refine AWp.seqK fun K4 hK4 => ?_
    refine AWp.regionA fun K5 hK5 => ?_
    refine ARun.segm 3 fun KS hKS => ?_
    refine ARun2.endm (hKS _ ?_); clear hKS KS
    apply ARun.grpM 4 2 true 32 [0, 2, 4, 7, 8, 28]
    · intro g2 KG hKG
      refine ARun2.gom ?_
      exact ARun2.endm (hKG _ Le.grpM)
    refine ARun2.gom ?_
    refine ARun2.endm (hK5 _ ?_)
    refine AWp.condLM (fun c1 => ?_) (fun c1 => ?_)
    · skip
      refine AWp.skip ?_
      refine hK4 _ ?_
      refine AWp.condT ?_
      have hb : badN c n.ty n.data.length n.kids = true := by unfold badN; simp_all
      refine AWp.regionW ?_
      refine AWp.ret ?_
      try simp only [thenQ, blockQ]
      refine bodyQ.m ?_
      clear hK5 K5 hK4 K4 hK3 K3 hK2 K2 hK1 K1
      rw [checkN_eq, if_neg h0, if_pos hb]
      first | done | exact Hand.go
    · skip
      refine AWp.regionB fun K6 hK6 => ?_
      refine ARun.segm 2 fun KS hKS => ?_
      refine ARun2.endm (hKS _ ?_); clear hKS KS
      apply ARun.grpM 13 1 true 48 [0, 2, 4, 7, 35]
      · intro g1 KG hKG
        have hf := form_ok c n.ty g1
        refine ARun.segm 7 fun KS hKS => ?_
        refine ARun2.callM (fits_c (shapeOf c n.ty) n.data.length (by omega) hf.2.2 hf.1 hf.2.1) ?_
        refine ARun2.endm (hKS _ ?_); clear hKS KS
        apply ARun.grpM 5 8 false 47 [0, 2, 4, 7, 35, 42]
        · intro g8 KG hKG
          refine ARun2.gom ?_
          refine ARun2.callM (kids_c (shapeOf c n.ty) n.kids (by omega) (form_kids c n.ty)) ?_
          exact ARun2.endm (hKG _ Le.grpM)
        refine ARun2.gom ?_
        exact ARun2.endm (hKG _ Le.grpM)
      refine ARun2.gom ?_
      refine ARun2.endm (hK6 _ ?_)
      refine hK4 _ ?_
      refine AWp.condLM (fun c2 => ?_) (fun c2 => ?_)
      · skip
        have hb : badN c n.ty n.data.length n.kids = true := by unfold badN; simp_all
        refine AWp.regionW ?_
        refine AWp.ret ?_
        try simp only [thenQ, blockQ]
        refine bodyQ.m ?_
        clear hK6 K6 hK5 K5 hK4 K4 hK3 K3 hK2 K2 hK1 K1
        rw [checkN_eq, if_neg h0, if_pos hb]
        first | done | exact Hand.go
      · skip
        have hb : badN c n.ty n.data.length n.kids = false := by unfold badN; simp_all
        have hb' : ¬ badN c n.ty n.data.length n.kids = true := by rw [hb]; simp
        refine AWp.regionM fun K7 hK7 => ?_
        refine ARun2.callM (counted_c c n.ty n.data (by omega)) ?_
        refine ARun2.endm (hK7 _ ?_)
        refine AWp.condLM (fun c3 => ?_) (fun c3 => ?_)
        · skip
          have h3 : countedN c n.ty n.data = true := c3
          refine AWp.regionW ?_
          refine AWp.ret ?_
          try simp only [thenQ, blockQ]
          refine bodyQ.m ?_
          clear hK7 K7 hK6 K6 hK5 K5 hK4 K4 hK3 K3 hK2 K2 hK1 K1
          rw [checkN_eq, if_neg h0, if_neg hb', if_pos h3]
          first | done | exact Hand.go
        · skip
          have h3 : ¬ countedN c n.ty n.data = true := by rw [c3]; simp
          refine AWp.skip ?_
          refine hK3 _ ?_
          refine AWp.regionM fun K8 hK8 => ?_
          refine ARun2.callM (inside_c (shapeOf c n.ty).kids (form_kids c n.ty)) ?_
          refine ARun2.endm (hK8 _ ?_)
          refine AWp.seqK fun K9 hK9 => ?_
          refine AWp.regionW ?_
          refine AWp.block ?_
          refine AWp.loopK0 [2, 4, 9, 67, 68] (fun (i : Nat) => [(69, nat i)]) (fun i => i ≤ n.kids.length ∧ checkL (insideN (shapeOf c n.ty).kids).1 (dp + 1) (n.kids.take i) = 0) (fun i => n.kids.length - i) (0) ?_ ⟨Nat.zero_le _, rfl⟩ ?_
          · skip
            refine Le.m 2 ?_ ?_
            · first | with_reducible rfl | (simp only [push_cast, reduceIte, Nat.reduceEqDiff, Nat.reduceLT, Nat.reduceAdd, Nat.reduceSub, Nat.reduceMul, Nat.reduceLeDiff, Nat.reducePow, Int.reduceLT, Int.reduceToNat, reduceCtorEq, Int.reduceNeg, Int.reduceEq, Nat.reduceBEq, Nat.reduceBNe, Int.reduceBEq, Int.reduceBNe, String.reduceEq]; first | done | rfl | (simp (disch := omega) only [w_nat, w_add, w_addl, w_addr, w_sub, w_subl, w_mul, w_mull, w_mulr, w_u32, w_u16, w_u8, w_u32a, N_zero]; first | done | rfl))
            · first | (simp only [push_cast, reduceIte, Nat.reduceEqDiff, Nat.reduceLT, Nat.reduceAdd, Nat.reduceSub, Nat.reduceMul, Nat.reduceLeDiff, Nat.reducePow, Int.reduceLT, Int.reduceToNat, reduceCtorEq, Int.reduceNeg, Int.reduceEq, Nat.reduceBEq, Nat.reduceBNe, Int.reduceBEq, Int.reduceBNe, String.reduceEq]; first | done | rfl | (simp (disch := omega) only [w_nat, w_add, w_addl, w_addr, w_sub, w_subl, w_mul, w_mull, w_mulr, w_u32, w_u16, w_u8, w_u32a, N_zero]; first | done | rfl))
          · intro i hi K10 hK10
            refine AWp.regionW ?_
            refine AWp.seqK fun K11 hK11 => ?_
            refine AWp.condLM (fun c4 => ?_) (fun c4 => ?_)
            · skip
              have hil : i < n.kids.length := by simpa using c4
              have hm := List.getElem_mem hil
              have hcl := inside_class c n.ty n.data.length n.kids hb (by omega)
              refine AWp.skip ?_
              refine hK11 _ ?_
              refine AWp.seqK fun K12 hK12 => ?_
              refine AWp.block ?_
              refine AWp.regionM fun K13 hK13 => ?_
              refine ARun2.indexM (i) (nodeA false n.kids[i]) ?_ ?_
              · exact nodesA_at _ _ _ hil
              refine ARun2.endm (hK13 _ ?_)
              refine AWp.regionM fun K14 hK14 => ?_
              refine ARun2.callM (ih (insideN (shapeOf c n.ty).kids).1 (dp + 1) n.kids[i] (by have := wts_mem hm; rw [GNode.wt_eq] at hw; omega) hcl (by omega) (by have := nSize_one hm; omega)) ?_
              refine ARun2.endm (hK14 _ ?_)
              refine AWp.regionW ?_
              refine AWp.condLM (fun c5 => ?_) (fun c5 => ?_)
              · skip
                have h5 : checkN (insideN (shapeOf c n.ty).kids).1 (dp + 1) n.kids[i] ≠ 0 := by simpa using c5
                refine AWp.regionW ?_
                refine AWp.ret ?_
                try simp only [thenQ, blockQ]
                refine bodyQ.m ?_
                clear hK14 K14 hK13 K13 hK12 K12 hK11 K11 hK10 K10 hK9 K9 hK8 K8 hK7 K7 hK6 K6 hK5 K5 hK4 K4 hK3 K3 hK2 K2 hK1 K1
                have hL := checkL_at _ _ n.kids i hil hi.2 h5
                rw [checkN_eq c dp n, if_neg h0, if_neg hb', if_neg h3, if_pos (by rw [hL]; exact h5), hL]
                first | done | exact Hand.go
              · skip
                have h5 : checkN (insideN (shapeOf c n.ty).kids).1 (dp + 1) n.kids[i] = 0 := by simpa using c5
                refine AWp.skip ?_
                refine hK12 _ ?_
                refine AWp.regionV ?_
                refine hK10 _ (i + 1) (⟨by omega, by rw [List.take_succ_eq_append_getElem hil, checkL_snoc, hi.2]; simpa using h5⟩) (by omega) ?_
                refine Le.m 2 ?_ ?_
                · first | with_reducible rfl | (simp only [push_cast, reduceIte, Nat.reduceEqDiff, Nat.reduceLT, Nat.reduceAdd, Nat.reduceSub, Nat.reduceMul, Nat.reduceLeDiff, Nat.reducePow, Int.reduceLT, Int.reduceToNat, reduceCtorEq, Int.reduceNeg, Int.reduceEq, Nat.reduceBEq, Nat.reduceBNe, Int.reduceBEq, Int.reduceBNe, String.reduceEq]; first | done | rfl | (simp (disch := omega) only [w_nat, w_add, w_addl, w_addr, w_sub, w_subl, w_mul, w_mull, w_mulr, w_u32, w_u16, w_u8, w_u32a, N_zero]; first | done | rfl))
                · first | (simp only [push_cast, reduceIte, Nat.reduceEqDiff, Nat.reduceLT, Nat.reduceAdd, Nat.reduceSub, Nat.reduceMul, Nat.reduceLeDiff, Nat.reducePow, Int.reduceLT, Int.reduceToNat, reduceCtorEq, Int.reduceNeg, Int.reduceEq, Nat.reduceBEq, Nat.reduceBNe, Int.reduceBEq, Int.reduceBNe, String.reduceEq]; first | done | rfl | (simp (disch := omega) only [w_nat, w_add, w_addl, w_addr, w_sub, w_subl, w_mul, w_mull, w_mulr, w_u32, w_u16, w_u8, w_u32a, N_zero]; first | done | rfl))
            · skip
              have hil : i = n.kids.length := by have := hi.1; simp at c4; omega
              have hL : checkL (insideN (shapeOf c n.ty).kids).1 (dp + 1) n.kids = 0 := by have := hi.2; rwa [hil, List.take_length] at this
              subst hil
              refine AWp.exit ?_
              simp only [thenQ, blockQ, reduceIte, Nat.reduceEqDiff]
              refine hK9 _ ?_
              refine AWp.seqK fun K15 hK15 => ?_
              refine AWp.regionM fun K16 hK16 => ?_
              refine ARun2.callM (size_c [n] hs) ?_
              refine ARun2.endm (hK16 _ ?_)
              refine AWp.condLM (fun c6 => ?_) (fun c6 => ?_)
              · skip
                have h6 : 65535 < nSize [n] := by simpa using c6
                refine AWp.regionW ?_
                refine AWp.ret ?_
                try simp only [thenQ, blockQ]
                refine bodyQ.m ?_
                clear hK16 K16 hK15 K15 hK11 K11 hK10 K10 hK9 K9 hK8 K8 hK7 K7 hK6 K6 hK5 K5 hK4 K4 hK3 K3 hK2 K2 hK1 K1
                rw [checkN_eq, if_neg h0, if_neg hb', if_neg h3, if_neg (by rw [hL]; simp), if_pos h6]
                first | done | exact Hand.go
              · skip
                have h6 : ¬ 65535 < nSize [n] := by simpa using c6
                refine AWp.skip ?_
                refine hK15 _ ?_
                refine AWp.regionW ?_
                refine AWp.ret ?_
                try simp only [thenQ, blockQ]
                refine bodyQ.m ?_
                clear hK16 K16 hK15 K15 hK11 K11 hK10 K10 hK9 K9 hK8 K8 hK7 K7 hK6 K6 hK5 K5 hK4 K4 hK3 K3 hK2 K2 hK1 K1
                rw [checkN_eq, if_neg h0, if_neg hb', if_neg h3, if_neg (by rw [hL]; simp), if_neg h6]
                first | done | exact Hand.go

theorem check_w : ∀ (w c dp : Nat) (n : GNode), n.wt ≤ w → (c = 1 ∨ c = 2) → dp < 2 ^ 60 → nSize [n] ≤ 2 ^ 30 → PC Try.prog 49 [nat c, nodeA false n, nat dp] (errA (checkN c dp n)) := by
  intro w
  induction w with
  | zero => exact check_step 0 (fun c dp n h => by omega)
  | succ w ih => exact check_step (w + 1) (fun c dp n h => ih c dp n (by omega))
theorem check_c (c : Nat) (n : GNode) (hc : c = 1 ∨ c = 2) (hs : nSize [n] ≤ 2 ^ 30) : PC Try.prog 39 [nat c, nodeA false n] (errA (checkN c 1 n)) := by
  refine PC.of_bodyW (by simp only [push_cast]) Try.func39 rfl (by rw [Try.ntmps39]; simp) ?_
  refine AWp.regionW ?_
  refine AWp.regionM fun K1 hK1 => ?_
  refine ARun2.callM (check_w n.wt c 1 n (Nat.le_refl _) hc (by omega) hs) ?_
  refine ARun2.endm (hK1 _ ?_)
  refine AWp.ret ?_
  try simp only [thenQ, blockQ]
  refine bodyQ.m ?_
  clear hK1 K1
  first | done | exact Hand.go
end Go.Proofs.Ytmcedkcehcacpaa.C

/- node: Clone, Same. -/
set_option linter.unusedVariables false
set_option linter.unusedSimpArgs false
namespace Go.Abs
theorem nodesA_snoc (b : Bool) (l : List GNode) (n : GNode) : nodesA b (l ++ [n]) = nodesA b l ++ [nodeA b n] := by rw [nodesA_map, nodesA_map, List.map_append]; rfl
mutual
/-- all that a node holds -/
def GNode.sz : GNode → Nat
  | .mk _ d k => d.length + szs k + 1
def szs : List GNode → Nat
  | [] => 0
  | n :: l => n.sz + szs l
end
theorem GNode.sz_eq (n : GNode) : n.sz = n.data.length + szs n.kids + 1 := by cases n; simp [GNode.sz, GNode.kids, GNode.data]
theorem szs_mem : ∀ {l : List GNode} {n : GNode}, n ∈ l → n.sz ≤ szs l
  | [], n, h => by simp at h
  | m :: l, n, h => by
    rcases List.mem_cons.1 h with h | h
    · subst h; simp only [szs]; omega
    · have := szs_mem h; simp only [szs]; omega
theorem szs_len : ∀ l : List GNode, l.length ≤ szs l
  | [] => by simp [szs]
  | n :: l => by
    have := szs_len l
    have := n.sz_eq
    simp only [szs, List.length_cons]; omega
theorem szs_lt {n m : GNode} (h : m ∈ n.kids) : m.sz < n.sz := by
  have := szs_mem h; rw [GNode.sz_eq n]; omega
mutual
/-- are two nodes the same? -/
def sameN : GNode → GNode → Bool
  | .mk t d k, .mk t' d' k' => t == t' && (decide (d = d') && sameL k k')
def sameL : List GNode → List GNode → Bool
  | [], [] => true
  | n :: l, m :: r => sameN n m && sameL l r
  | _, _ => false
end
theorem sameN_eq (n m : GNode) : sameN n m = (n.ty == m.ty && (decide (n.data = m.data) && sameL n.kids m.kids)) := by cases n; cases m; rw [sameN]; rfl
mutual
theorem sameN_iff : ∀ n m : GNode, sameN n m = true ↔ n = m
  | .mk t d k, .mk t' d' k' => by
    have := sameL_iff k k'
    simp [sameN, this]
theorem sameL_iff : ∀ l r : List GNode, sameL l r = true ↔ l = r
  | [], [] => by simp [sameL]
  | n :: l, m :: r => by
    have h1 := sameN_iff n m
    have h2 := sameL_iff l r
    simp [sameL, h1, h2]
  | [], m :: r => by simp [sameL]
  | n :: l, [] => by simp [sameL]
end
theorem sameL_len {l r : List GNode} (h : l.length ≠ r.length) : sameL l r = false := by
  cases hs : sameL l r with
  | false => rfl
  | true => rw [sameL_iff] at hs; subst hs; simp at h
theorem sameL_take {l r : List GNode} {i : Nat} (hl : i < l.length) (hr : i < r.length) (h0 : sameL (l.take i) (r.take i) = true) (h : sameN l[i] r[i] = true) : sameL (l.take (i + 1)) (r.take (i + 1)) = true := by
  rw [sameL_iff] at *
  rw [sameN_iff] at h
  rw [List.take_succ_eq_append_getElem hl, List.take_succ_eq_append_getElem hr, h0, h]
theorem sameL_at {l r : List GNode} {i : Nat} (hl : i < l.length) (hr : i < r.length) (h : sameN l[i] r[i] = false) : sameL l r = false := by
  cases hs : sameL l r with
  | false => rfl
  | true =>
    rw [sameL_iff] at hs; subst hs
    have : sameN l[i] l[i] = true := (sameN_iff _ _).2 rfl
    rw [this] at h; cases h
end Go.Abs

namespace Go.Proofs.Ytmcedkcehcacpaa.C
open Go.Abs
theorem equalFunc_c (l r : List GNode) (hl : l.length ≤ 2 ^ 40) (ih : ∀ n ∈ l, ∀ m ∈ r, PC Try.prog 30 [nodeA false n, nodeA false m] (bool (sameN n m))) :
    PC Try.prog 45 [.sl false 3 (nodesA false l), .sl false 3 (nodesA false r), .fn (.func 30) [] []] (bool (sameL l r)) := by
  refine PC.of_bodyW (by simp only [push_cast]) Try.func45 rfl (by rw [Try.ntmps45]; simp) ?_
  refine AWp.regionW ?_
  refine AWp.seqK fun K1 hK1 => ?_
  refine AWp.regionW ?_
  refine AWp.condLM (fun c0 => ?_) (fun c0 => ?_)
  · skip
    have hne : l.length ≠ r.length := by simpa using c0
    refine AWp.regionW ?_
    refine AWp.ret ?_
    try simp only [thenQ, blockQ]
    refine bodyQ.m ?_
    clear hK1 K1
    rw [sameL_len hne]
    first | done | exact Hand.go
  · skip
    have he : l.length = r.length := by simpa using c0
    refine AWp.skip ?_
    refine hK1 _ ?_
    refine AWp.seqK fun K2 hK2 => ?_
    refine AWp.regionW ?_
    refine AWp.block ?_
    refine AWp.loopK0 [1, 2, 15, 16] (fun (i : Nat) => [(17, nat i)]) (fun i => i ≤ l.length ∧ sameL (l.take i) (r.take i) = true) (fun i => l.length - i) (0) ?_ ⟨Nat.zero_le _, rfl⟩ ?_
    · skip
      refine Le.m 0 ?_ ?_
      · first | with_reducible rfl | (simp only [push_cast, reduceIte, Nat.reduceEqDiff, Nat.reduceLT, Nat.reduceAdd, Nat.reduceSub, Nat.reduceMul, Nat.reduceLeDiff, Nat.reducePow, Int.reduceLT, Int.reduceToNat, reduceCtorEq, Int.reduceNeg, Int.reduceEq, Nat.reduceBEq, Nat.reduceBNe, Int.reduceBEq, Int.reduceBNe, String.reduceEq]; first | done | rfl | (simp (disch := omega) only [w_nat, w_add, w_addl, w_addr, w_sub, w_subl, w_mul, w_mull, w_mulr, w_u32, w_u16, w_u8, w_u32a, N_zero]; first | done | rfl))
      · first | (simp only [push_cast, reduceIte, Nat.reduceEqDiff, Nat.reduceLT, Nat.reduceAdd, Nat.reduceSub, Nat.reduceMul, Nat.reduceLeDiff, Nat.reducePow, Int.reduceLT, Int.reduceToNat, reduceCtorEq, Int.reduceNeg, Int.reduceEq, Nat.reduceBEq, Nat.reduceBNe, Int.reduceBEq, Int.reduceBNe, String.reduceEq]; first | done | rfl | (simp (disch := omega) only [w_nat, w_add, w_addl, w_addr, w_sub, w_subl, w_mul, w_mull, w_mulr, w_u32, w_u16, w_u8, w_u32a, N_zero]; first | done | rfl))
    · intro i hi K3 hK3
      refine AWp.regionW ?_
      refine AWp.seqK fun K4 hK4 => ?_
      refine AWp.condLM (fun c1 => ?_) (fun c1 => ?_)
      · skip
        have hil : i < l.length := by simpa using c1
        have hir : i < r.length := by omega
        refine AWp.skip ?_
        refine hK4 _ ?_
        refine AWp.seqK fun K5 hK5 => ?_
        refine AWp.block ?_
        refine AWp.regionM fun K6 hK6 => ?_
        refine ARun2.indexM (i) (nodeA false l[i]) ?_ ?_
        · exact nodesA_at _ _ _ hil
        refine ARun2.endm (hK6 _ ?_)
        refine AWp.regionM fun K7 hK7 => ?_
        refine ARun2.indexM (i) (nodeA false r[i]) ?_ ?_
        · exact nodesA_at _ _ _ hir
        refine ARun2.endm (hK7 _ ?_)
        refine AWp.regionM fun K8 hK8 => ?_
        refine ARun2.callVM (ih l[i] (List.getElem_mem hil) r[i] (List.getElem_mem hir)) ?_
        refine ARun2.endm (hK8 _ ?_)
        refine AWp.condLM (fun c2 => ?_) (fun c2 => ?_)
        · skip
          have h5 : sameN l[i] r[i] = false := by simpa using c2
          refine AWp.regionW ?_
          refine AWp.ret ?_
          try simp only [thenQ, blockQ]
          refine bodyQ.m ?_
          clear hK8 K8 hK7 K7 hK6 K6 hK5 K5 hK4 K4 hK3 K3 hK2 K2 hK1 K1
          rw [sameL_at hil hir h5]
          first | done | exact Hand.go
        · skip
          have h5 : sameN l[i] r[i] = true := by simpa using c2
          refine AWp.skip ?_
          refine hK5 _ ?_
          refine AWp.regionV ?_
          refine hK3 _ (i + 1) (⟨by omega, sameL_take hil hir hi.2 h5⟩) (by omega) ?_
          refine Le.m 0 ?_ ?_
          · first | with_reducible rfl | (simp only [push_cast, reduceIte, Nat.reduceEqDiff, Nat.reduceLT, Nat.reduceAdd, Nat.reduceSub, Nat.reduceMul, Nat.reduceLeDiff, Nat.reducePow, Int.reduceLT, Int.reduceToNat, reduceCtorEq, Int.reduceNeg, Int.reduceEq, Nat.reduceBEq, Nat.reduceBNe, Int.reduceBEq, Int.reduceBNe, String.reduceEq]; first | done | rfl | (simp (disch := omega) only [w_nat, w_add, w_addl, w_addr, w_sub, w_subl, w_mul, w_mull, w_mulr, w_u32, w_u16, w_u8, w_u32a, N_zero]; first | done | rfl))
          · first | (simp only [push_cast, reduceIte, Nat.reduceEqDiff, Nat.reduceLT, Nat.reduceAdd, Nat.reduceSub, Nat.reduceMul, Nat.reduceLeDiff, Nat.reducePow, Int.reduceLT, Int.reduceToNat, reduceCtorEq, Int.reduceNeg, Int.reduceEq, Nat.reduceBEq, Nat.reduceBNe, Int.reduceBEq, Int.reduceBNe, String.reduceEq]; first | done | rfl | (simp (disch := omega) only [w_nat, w_add, w_addl, w_addr, w_sub, w_subl, w_mul, w_mull, w_mulr, w_u32, w_u16, w_u8, w_u32a, N_zero]; first | done | rfl))
      · skip
        have hil : i = l.length := by have := hi.1; simp at c1; omega
        have hs : sameL l r = true := by have := hi.2; rwa [hil, List.take_length, he, List.take_length] at this
        refine AWp.exit ?_
        simp only [thenQ, blockQ, reduceIte, Nat.reduceEqDiff]
        refine hK2 _ ?_
        refine AWp.regionW ?_
        refine AWp.ret ?_
        try simp only [thenQ, blockQ]
        refine bodyQ.m ?_
        clear hK4 K4 hK3 K3 hK2 K2 hK1 K1
        rw [hs]
        first | done | exact Hand.go

theorem same_step (n m : GNode) (hs : n.sz ≤ 2 ^ 40) (ih : ∀ a b : GNode, a.sz < n.sz → PC Try.prog 30 [nodeA false a, nodeA false b] (bool (sameN a b))) : PC Try.prog 30 [nodeA false n, nodeA false m] (bool (sameN n m)) := by
  have hsz := n.sz_eq
  have hlen := szs_len n.kids
  have hq := equalFunc_c n.kids m.kids (by omega) (fun a ha b hb => ih a b (szs_lt ha))
  refine PC.of_bodyW (by simp only [push_cast]) Try.func30 rfl (by rw [Try.ntmps30]; simp) ?_
  refine AWp.regionW ?_
  refine AWp.regionA fun K1 hK1 => ?_
  refine ARun.segm 6 fun KS hKS => ?_
  refine ARun2.endm (hKS _ ?_); clear hKS KS
  apply ARun.grpM 5 5 true 15 [2, 3, 10]
  · intro g5 KG hKG
    refine ARun2.gom ?_
    refine ARun2.callM (equal_c n.data m.data) ?_
    exact ARun2.endm (hKG _ Le.grpM)
  refine ARun.segm 2 fun KS hKS => ?_
  refine ARun2.endm (hKS _ ?_); clear hKS KS
  apply ARun.grpM 5 12 true 22 [17]
  · intro g12 KG hKG
    refine ARun2.gom ?_
    refine ARun2.callM (hq) ?_
    exact ARun2.endm (hKG _ Le.grpM)
  refine ARun2.gom ?_
  refine ARun2.endm (hK1 _ ?_)
  refine AWp.ret ?_
  try simp only [thenQ, blockQ]
  refine bodyQ.m ?_
  clear hK1 K1
  simp only [sameN_eq, Bool.and_assoc]
  first | done | exact Hand.go
theorem same_w : ∀ (w : Nat) (n m : GNode), n.sz ≤ w → n.sz ≤ 2 ^ 40 → PC Try.prog 30 [nodeA false n, nodeA false m] (bool (sameN n m)) := by
  intro w
  induction w with
  | zero => intro n m h; have := n.sz_eq; omega
  | succ w ih => exact fun n m hw hs => same_step n m hs (fun a b h => ih a b (by omega) (by omega))
theorem same_c (n m : GNode) (hs : n.sz ≤ 2 ^ 40) : PC Try.prog 30 [nodeA false n, nodeA false m] (bool (sameN n m)) := same_w _ n m (Nat.le_refl _) hs

theorem nclone_step (n : GNode) (hs : n.sz ≤ 2 ^ 40) (ih : ∀ a : GNode, a.sz < n.sz → PC Try.prog 40 [nodeA false a] (nodeA false a)) : PC Try.prog 40 [nodeA false n] (nodeA false n) := by
  have hsz := n.sz_eq
  have hlen := szs_len n.kids
  refine PC.of_bodyW (by simp only [push_cast]) Try.func40 rfl (by rw [Try.ntmps40]; simp) ?_
  refine AWp.regionW ?_
  refine AWp.drS [[(1, none)], [(6, some 0)], [(1, none)], [(8, some 2)], [(9, some 3)], [(7, some 1), (10, some 4)], []] fun G hG => ?_
  refine Dr.sim ?_
  try simp only [List.cons_append, List.nil_append]
  refine Dr.sim ?_
  try simp only [List.cons_append, List.nil_append]
  refine Dr.sim ?_
  try simp only [List.cons_append, List.nil_append]
  refine Dr.sim ?_
  try simp only [List.cons_append, List.nil_append]
  refine Dr.call (clone_c n.data (by omega)) ?_
  try simp only [List.cons_append, List.nil_append]
  refine Dr.sim ?_
  try simp only [List.cons_append, List.nil_append]
  refine Dr.al ?_
  try simp only [List.cons_append, List.nil_append]
  refine Dr.finA (n := 7) 6 [(11, 5), (3, 6)] [1, 2] hG Ytmcedkcehcacpaa.Facts.mixed fun KD hKD => ?_
  refine ARun2.endm (hKD _ ?_); clear hKD KD hG G
  refine AWp.seqK fun K1 hK1 => ?_
  refine AWp.regionW ?_
  refine AWp.block ?_
  refine AWp.nilBox 2 2 28 3 rfl rfl ?_
  simp only [push_cast, reduceIte, Nat.reduceEqDiff, Nat.reduceLT, Nat.reduceAdd, Nat.reduceSub, Nat.reduceMul, Nat.reduceLeDiff, Nat.reducePow, Int.reduceLT, Int.reduceToNat, reduceCtorEq, Int.reduceNeg, Int.reduceEq, Nat.reduceBEq, Nat.reduceBNe, Int.reduceBEq, Int.reduceBNe, String.reduceEq]
  refine AWp.loopK [2, 3, 13, 14] (fun (i : Nat) => [(15, nat i)]) (fun i => [.box 28 [u16 n.ty, .sl false 1 (bys n.data), .sl false 3 (nodesA false n.kids)], .box 28 [.val (.int .u16 0), .val (.slice none 0 0), .val (.slice none 0 0)], .box 28 [u16 n.ty, .sl true 1 (bys n.data), .own 3], .row 28 3 (nodesA false (n.kids.take i))]) (fun i => i ≤ n.kids.length) (fun i => n.kids.length - i) (0) ?_ (Nat.zero_le _) ?_
  · skip
    refine Le.m 4 ?_ ?_
    · first | with_reducible rfl | (simp only [push_cast, reduceIte, Nat.reduceEqDiff, Nat.reduceLT, Nat.reduceAdd, Nat.reduceSub, Nat.reduceMul, Nat.reduceLeDiff, Nat.reducePow, Int.reduceLT, Int.reduceToNat, reduceCtorEq, Int.reduceNeg, Int.reduceEq, Nat.reduceBEq, Nat.reduceBNe, Int.reduceBEq, Int.reduceBNe, String.reduceEq]; first | done | rfl | (simp (disch := omega) only [w_nat, w_add, w_addl, w_addr, w_sub, w_subl, w_mul, w_mull, w_mulr, w_u32, w_u16, w_u8, w_u32a, N_zero]; first | done | rfl))
    · first | (simp only [push_cast, reduceIte, Nat.reduceEqDiff, Nat.reduceLT, Nat.reduceAdd, Nat.reduceSub, Nat.reduceMul, Nat.reduceLeDiff, Nat.reducePow, Int.reduceLT, Int.reduceToNat, reduceCtorEq, Int.reduceNeg, Int.reduceEq, Nat.reduceBEq, Nat.reduceBNe, Int.reduceBEq, Int.reduceBNe, String.reduceEq]; first | done | rfl | (simp (disch := omega) only [w_nat, w_add, w_addl, w_addr, w_sub, w_subl, w_mul, w_mull, w_mulr, w_u32, w_u16, w_u8, w_u32a, N_zero]; first | done | rfl))
  · intro i hi K2 hK2
    refine AWp.regionW ?_
    refine AWp.seqK fun K3 hK3 => ?_
    refine AWp.condLM (fun c0 => ?_) (fun c0 => ?_)
    · skip
      have hil : i < n.kids.length := by simpa using c0
      refine AWp.skip ?_
      refine hK3 _ ?_
      refine AWp.seqK fun K4 hK4 => ?_
      refine AWp.block ?_
      refine AWp.regionM fun K5 hK5 => ?_
      refine ARun2.indexM (i) (nodeA false n.kids[i]) ?_ ?_
      · exact nodesA_at _ _ _ hil
      refine ARun2.endm (hK5 _ ?_)
      refine AWp.drE [[(3, none)], [(19, some 0)], [(5, none)], [(21, some 2)], [(22, some 3)]] fun G hG => ?_
      refine Dr.sim ?_
      try simp only [List.cons_append, List.nil_append]
      refine Dr.sim ?_
      try simp only [List.cons_append, List.nil_append]
      refine Dr.sim ?_
      try simp only [List.cons_append, List.nil_append]
      refine Dr.call (ih n.kids[i] (szs_lt (List.getElem_mem hil))) ?_
      try simp only [List.cons_append, List.nil_append]
      refine Dr.build ?_
      try simp only [List.cons_append, List.nil_append]
      refine Dr.finN (n := 5) [(20, 1), (23, 4)] [2, 3, 13, 14, 15] hG Ytmcedkcehcacpaa.Facts.mixed fun KD hKD => ?_
      refine ARun2.appendM ?_ ?_ ?_
      · rw [Ytmcedkcehcacpaa.Facts.eb26, nodesA_len, List.length_take, List.length_cons, List.length_nil]; omega
      · rw [nodesA_len, List.length_take, List.length_cons, List.length_nil]; omega
      refine ARun2.endm (hKD _ ?_); clear hKD KD hG G
      refine hK4 _ ?_
      refine AWp.regionV ?_
      refine hK2 _ (i + 1) (by omega) (by omega) ?_
      refine Le.m 4 ?_ ?_
      · try simp only [push_cast, reduceIte, Nat.reduceEqDiff, Nat.reduceLT, Nat.reduceAdd, Nat.reduceSub, Nat.reduceMul, Nat.reduceLeDiff, Nat.reducePow, Int.reduceLT, Int.reduceToNat, reduceCtorEq, Int.reduceNeg, Int.reduceEq, Nat.reduceBEq, Nat.reduceBNe, Int.reduceBEq, Int.reduceBNe, String.reduceEq]
        try simp (disch := omega) only [w_nat, w_add, w_addl, w_addr, w_sub, w_subl, w_mul, w_mull, w_mulr, w_u32, w_u16, w_u8, w_u32a, N_zero]
        first | done | skip
        rw [List.take_succ_eq_append_getElem hil, nodesA_snoc, nodeA_eq]
      · first | (simp only [push_cast, reduceIte, Nat.reduceEqDiff, Nat.reduceLT, Nat.reduceAdd, Nat.reduceSub, Nat.reduceMul, Nat.reduceLeDiff, Nat.reducePow, Int.reduceLT, Int.reduceToNat, reduceCtorEq, Int.reduceNeg, Int.reduceEq, Nat.reduceBEq, Nat.reduceBNe, Int.reduceBEq, Int.reduceBNe, String.reduceEq]; first | done | rfl | (simp (disch := omega) only [w_nat, w_add, w_addl, w_addr, w_sub, w_subl, w_mul, w_mull, w_mulr, w_u32, w_u16, w_u8, w_u32a, N_zero]; first | done | rfl))
    · skip
      have hil : i = n.kids.length := by simp at c0; omega
      subst hil
      refine AWp.exit ?_
      simp only [thenQ, blockQ, reduceIte, Nat.reduceEqDiff]
      refine hK1 _ ?_
      refine AWp.pubD 3 ?_
      refine AWp.regionW ?_
      refine AWp.ret ?_
      try simp only [thenQ, blockQ]
      refine bodyQ.m ?_
      clear hK3 K3 hK2 K2 hK1 K1
      rw [List.take_length]
      first | done | exact Hand.go
theorem nclone_w : ∀ (w : Nat) (n : GNode), n.sz ≤ w → n.sz ≤ 2 ^ 40 → PC Try.prog 40 [nodeA false n] (nodeA false n) := by
  intro w
  induction w with
  | zero => intro n h; have := n.sz_eq; omega
  | succ w ih => exact fun n hw hs => nclone_step n hs (fun a h => ih a (by omega) (by omega))
theorem nclone_c (n : GNode) (hs : n.sz ≤ 2 ^ 40) : PC Try.prog 40 [nodeA false n] (nodeA false n) := nclone_w _ n (Nat.le_refl _) hs
end Go.Proofs.Ytmcedkcehcacpaa.C
