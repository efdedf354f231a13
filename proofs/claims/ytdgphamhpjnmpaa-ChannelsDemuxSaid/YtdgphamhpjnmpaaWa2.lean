/- Part 2 of the texts of DmJ. -/
import Derived.Test.YtdgphamhpjnmpaaWa1
import Derived.Below
import Derived.Deep.Slices
import Derived.KernelRfl
import Derived.Laws.Append
import Derived.Laws.Build
import Derived.Laws.BytesString
import Derived.Laws.Cells
import Derived.Laws.Concat
import Derived.Laws.Entries
import Derived.Laws.MakeOwn
import Derived.Laws.Slices
import Derived.Laws.Strings
import Derived.Laws.Strings2
import Derived.Laws.StructEq
import Derived.Lib.Strings
import Derived.Lib.UnsafeStr
import Derived.Orders
import Derived.OrdersHeld
import Derived.OrdersIn
import Derived.ProofKit
import Derived.RangeFuncCalls
import Derived.RangeFuncIn
import Derived.RangeFuncLeaves
import Derived.RangeFuncRecord
import Derived.Shelf.Bits.Mul64
import Derived.Shelf.Strings.Builder1
import Derived.Shelf.Strings.Builder2
import Derived.Shelf.Strings.BuilderF
import Derived.Shelf.Strings.Prefix
import Derived.Shelf.Strings.Repeat
import Derived.Tactics
import Derived.TacticsIn
import Derived.Test.YtdgphamhpjnmpaaProg
import Derived.Test.YtdgphamhpjnmpaaRows
/- Closed facts on the types and functions of this translation (by a program of mine). -/
namespace Go.Proofs.Ytdgphamhpjnmpaa
namespace Sx
open Go
theorem mixed : Try.prog.follows .mixedOrders = true := by kernel_rfl
theorem ta3 : tyAgg Try.prog 3 = some (false, 1) := by kernel_rfl
theorem zc3 : zeroCells' Try.prog 3 = some [.int .i64 0] := by kernel_rfl
theorem zo3 : zeroOf Try.prog 3 = some (.int .i64 0) := by kernel_rfl
theorem un3 : Try.prog.underlying 3 = some (.int .i64) := by kernel_rfl
theorem us3 : (Try.prog.underlying 3).isSome = true := by kernel_rfl
theorem ta4 : tyAgg Try.prog 4 = some (false, 1) := by kernel_rfl
theorem ta5 : tyAgg Try.prog 5 = some (false, 1) := by kernel_rfl
theorem zc5 : zeroCells' Try.prog 5 = some [.int .u8 0] := by kernel_rfl
theorem zo5 : zeroOf Try.prog 5 = some (.int .u8 0) := by kernel_rfl
theorem un5 : Try.prog.underlying 5 = some (.int .u8) := by kernel_rfl
theorem co5 : Try.prog.cellsOf 5 = 1 := by kernel_rfl
theorem us5 : (Try.prog.underlying 5).isSome = true := by kernel_rfl
theorem ta9 : tyAgg Try.prog 9 = some (false, 1) := by kernel_rfl
theorem zc9 : zeroCells' Try.prog 9 = some [S []] := by kernel_rfl
theorem zo9 : zeroOf Try.prog 9 = some (S []) := by kernel_rfl
theorem un9 : Try.prog.underlying 9 = some .string := by kernel_rfl
theorem ta22 : tyAgg Try.prog 22 = some (false, 1) := by kernel_rfl
theorem so22 : sliceOf Try.prog 22 = some (9, 1, 16) := by kernel_rfl
theorem un24 : Try.prog.underlying 24 = some (.pointer 74) := by kernel_rfl
theorem ta31 : tyAgg Try.prog 31 = some (false, 1) := by kernel_rfl
theorem un31 : Try.prog.underlying 31 = some (.int .u32) := by kernel_rfl
theorem us31 : (Try.prog.underlying 31).isSome = true := by kernel_rfl
theorem ta33 : tyAgg Try.prog 33 = some (true, 7) := by kernel_rfl
theorem zc33 : zeroCells' Try.prog 33 = some [.int .i64 0, .bool false, .int .i64 0, .int .i64 0, .slice none 0 0, .int .i64 0, .int .u32 0] := by kernel_rfl
theorem pl33 : placesOf Try.prog 33 = some [(0, 1), (1, 1), (2, 1), (3, 1), (4, 1), (5, 1), (6, 1)] := by kernel_rfl
theorem fo33_0 : fieldOff Try.prog 33 0 = some 0 := by kernel_rfl
theorem fo33_1 : fieldOff Try.prog 33 1 = some 1 := by kernel_rfl
theorem fo33_2 : fieldOff Try.prog 33 2 = some 2 := by kernel_rfl
theorem fo33_3 : fieldOff Try.prog 33 3 = some 3 := by kernel_rfl
theorem fo33_4 : fieldOff Try.prog 33 4 = some 4 := by kernel_rfl
theorem fo33_5 : fieldOff Try.prog 33 5 = some 5 := by kernel_rfl
theorem fo33_6 : fieldOff Try.prog 33 6 = some 6 := by kernel_rfl
theorem ta38 : tyAgg Try.prog 38 = some (true, 8) := by kernel_rfl
theorem zc38 : zeroCells' Try.prog 38 = some [.int .i64 0, .int .i64 0, .int .i64 0, .int .i64 0, .int .i64 0, .int .i64 0, .int .i64 0, .int .i64 0] := by kernel_rfl
theorem ar38 : Try.prog.underlying 38 = some (.array 8 3) := by kernel_rfl
theorem ta43 : tyAgg Try.prog 43 = some (false, 1) := by kernel_rfl
theorem so43 : sliceOf Try.prog 43 = some (3, 1, 8) := by kernel_rfl
theorem ta47 : tyAgg Try.prog 47 = some (false, 1) := by kernel_rfl
theorem un47 : Try.prog.underlying 47 = some (.pointer 69) := by kernel_rfl
theorem ta67 : tyAgg Try.prog 67 = some (false, 1) := by kernel_rfl
theorem so67 : sliceOf Try.prog 67 = some (104, 5, 40) := by kernel_rfl
theorem zc69 : zeroCells' Try.prog 69 = some [.int .i64 0, .int .i64 0, .int .i64 0, .slice none 0 0] := by kernel_rfl
theorem pl69 : placesOf Try.prog 69 = some [(0, 1), (1, 1), (2, 1), (3, 1)] := by kernel_rfl
theorem fo69_0 : fieldOff Try.prog 69 0 = some 0 := by kernel_rfl
theorem fo69_1 : fieldOff Try.prog 69 1 = some 1 := by kernel_rfl
theorem fo69_2 : fieldOff Try.prog 69 2 = some 2 := by kernel_rfl
theorem fo69_3 : fieldOff Try.prog 69 3 = some 3 := by kernel_rfl
theorem ta71 : tyAgg Try.prog 71 = some (true, 5) := by kernel_rfl
theorem fo71_0 : fieldOff Try.prog 71 0 = some 0 := by kernel_rfl
theorem fo71_1 : fieldOff Try.prog 71 1 = some 1 := by kernel_rfl
theorem fo71_2 : fieldOff Try.prog 71 2 = some 2 := by kernel_rfl
theorem fo71_3 : fieldOff Try.prog 71 3 = some 3 := by kernel_rfl
theorem fo71_4 : fieldOff Try.prog 71 4 = some 4 := by kernel_rfl
theorem ar72 : Try.prog.underlying 72 = some (.array 8 71) := by kernel_rfl
theorem zc74 : zeroCells' Try.prog 74 = some [.int .i64 0, .int .i64 0, .bool false, .int .i64 0, .bool false, S [], .int .i64 0, .bool false, S [], .bool false, S [], .int .i64 0, .bool false, S [], .bool false, S [], .int .i64 0, .bool false, S [], .bool false, S [], .int .i64 0, .bool false, S [], .bool false, S [], .int .i64 0, .bool false, S [], .bool false, S [], .int .i64 0, .bool false, S [], .bool false, S [], .int .i64 0, .bool false, S [], .bool false, S [], .int .i64 0, .bool false, S []] := by kernel_rfl
theorem pl74 : placesOf Try.prog 74 = some [(0, 1), (1, 1), (2, 1), (3, 1), (4, 40)] := by kernel_rfl
theorem fo74_0 : fieldOff Try.prog 74 0 = some 0 := by kernel_rfl
theorem fo74_1 : fieldOff Try.prog 74 1 = some 1 := by kernel_rfl
theorem fo74_2 : fieldOff Try.prog 74 2 = some 2 := by kernel_rfl
theorem fo74_3 : fieldOff Try.prog 74 3 = some 3 := by kernel_rfl
theorem fo74_4 : fieldOff Try.prog 74 4 = some 4 := by kernel_rfl
theorem ta78 : tyAgg Try.prog 78 = some (true, 6) := by kernel_rfl
theorem zc78 : zeroCells' Try.prog 78 = some [.int .i64 0, .int .i64 0, .int .i64 0, .int .i64 0, .int .i64 0, .int .i64 0] := by kernel_rfl
theorem ar78 : Try.prog.underlying 78 = some (.array 6 3) := by kernel_rfl
theorem ta80 : tyAgg Try.prog 80 = some (true, 5) := by kernel_rfl
theorem fo80_0 : fieldOff Try.prog 80 0 = some 0 := by kernel_rfl
theorem fo80_1 : fieldOff Try.prog 80 1 = some 1 := by kernel_rfl
theorem fo80_2 : fieldOff Try.prog 80 2 = some 2 := by kernel_rfl
theorem fo80_3 : fieldOff Try.prog 80 3 = some 3 := by kernel_rfl
theorem fo80_4 : fieldOff Try.prog 80 4 = some 4 := by kernel_rfl
theorem ar81 : Try.prog.underlying 81 = some (.array 8 80) := by kernel_rfl
theorem zc83 : zeroCells' Try.prog 83 = some [.int .i64 0, .int .i64 0, .bool false, .int .i64 0, .bool false, S [], .int .i64 0, .bool false, S [], .bool false, S [], .int .i64 0, .bool false, S [], .bool false, S [], .int .i64 0, .bool false, S [], .bool false, S [], .int .i64 0, .bool false, S [], .bool false, S [], .int .i64 0, .bool false, S [], .bool false, S [], .int .i64 0, .bool false, S [], .bool false, S [], .int .i64 0, .bool false, S [], .bool false, S [], .int .i64 0, .bool false, S []] := by kernel_rfl
theorem pl83 : placesOf Try.prog 83 = some [(0, 1), (1, 1), (2, 1), (3, 1), (4, 40)] := by kernel_rfl
theorem fo83_0 : fieldOff Try.prog 83 0 = some 0 := by kernel_rfl
theorem fo83_1 : fieldOff Try.prog 83 1 = some 1 := by kernel_rfl
theorem fo83_2 : fieldOff Try.prog 83 2 = some 2 := by kernel_rfl
theorem fo83_3 : fieldOff Try.prog 83 3 = some 3 := by kernel_rfl
theorem fo83_4 : fieldOff Try.prog 83 4 = some 4 := by kernel_rfl
theorem ta85 : tyAgg Try.prog 85 = some (true, 7) := by kernel_rfl
theorem zc85 : zeroCells' Try.prog 85 = some [.int .i64 0, .int .i64 0, .int .i64 0, .int .i64 0, .int .i64 0, S [], .int .u32 0] := by kernel_rfl
theorem pl85 : placesOf Try.prog 85 = some [(0, 1), (1, 1), (2, 1), (3, 1), (4, 1), (5, 1), (6, 1)] := by kernel_rfl
theorem fo85_0 : fieldOff Try.prog 85 0 = some 0 := by kernel_rfl
theorem fo85_1 : fieldOff Try.prog 85 1 = some 1 := by kernel_rfl
theorem fo85_2 : fieldOff Try.prog 85 2 = some 2 := by kernel_rfl
theorem fo85_3 : fieldOff Try.prog 85 3 = some 3 := by kernel_rfl
theorem fo85_4 : fieldOff Try.prog 85 4 = some 4 := by kernel_rfl
theorem fo85_5 : fieldOff Try.prog 85 5 = some 5 := by kernel_rfl
theorem fo85_6 : fieldOff Try.prog 85 6 = some 6 := by kernel_rfl
theorem ta88 : tyAgg Try.prog 88 = some (false, 1) := by kernel_rfl
theorem ta91 : tyAgg Try.prog 91 = some (false, 1) := by kernel_rfl
theorem ta100 : tyAgg Try.prog 100 = some (false, 1) := by kernel_rfl
theorem un100 : Try.prog.underlying 100 = some (.pointer 142) := by kernel_rfl
theorem ta104 : tyAgg Try.prog 104 = some (true, 5) := by kernel_rfl
theorem zc104 : zeroCells' Try.prog 104 = some [.pointer none, .int .i64 0, .int .i64 0, .int .i64 0, .int .i64 0] := by kernel_rfl
theorem zo104 : zeroOf Try.prog 104 = some (.agg #[.pointer none, .int .i64 0, .int .i64 0, .int .i64 0, .int .i64 0]) := by kernel_rfl
theorem pl104 : placesOf Try.prog 104 = some [(0, 1), (1, 1), (2, 1), (3, 1), (4, 1)] := by kernel_rfl
theorem fo104_0 : fieldOff Try.prog 104 0 = some 0 := by kernel_rfl
theorem fo104_1 : fieldOff Try.prog 104 1 = some 1 := by kernel_rfl
theorem fo104_2 : fieldOff Try.prog 104 2 = some 2 := by kernel_rfl
theorem fo104_3 : fieldOff Try.prog 104 3 = some 3 := by kernel_rfl
theorem fo104_4 : fieldOff Try.prog 104 4 = some 4 := by kernel_rfl
theorem ta107 : tyAgg Try.prog 107 = some (false, 1) := by kernel_rfl
theorem so107 : sliceOf Try.prog 107 = some (5, 1, 1) := by kernel_rfl
theorem ta110 : tyAgg Try.prog 110 = some (true, 5) := by kernel_rfl
theorem zc110 : zeroCells' Try.prog 110 = some [.bool false, .int .i64 0, .int .i64 0, .int .i64 0, S []] := by kernel_rfl
theorem pl110 : placesOf Try.prog 110 = some [(0, 1), (1, 1), (2, 1), (3, 1), (4, 1)] := by kernel_rfl
theorem fo110_0 : fieldOff Try.prog 110 0 = some 0 := by kernel_rfl
theorem fo110_1 : fieldOff Try.prog 110 1 = some 1 := by kernel_rfl
theorem fo110_2 : fieldOff Try.prog 110 2 = some 2 := by kernel_rfl
theorem fo110_3 : fieldOff Try.prog 110 3 = some 3 := by kernel_rfl
theorem fo110_4 : fieldOff Try.prog 110 4 = some 4 := by kernel_rfl
theorem ta111 : tyAgg Try.prog 111 = some (false, 1) := by kernel_rfl
theorem zc111 : zeroCells' Try.prog 111 = some [.pointer none] := by kernel_rfl
theorem zo111 : zeroOf Try.prog 111 = some (.pointer none) := by kernel_rfl
theorem un111 : Try.prog.underlying 111 = some (.pointer 104) := by kernel_rfl
theorem ta117 : tyAgg Try.prog 117 = some (false, 1) := by kernel_rfl
theorem ar118 : Try.prog.underlying 118 = some (.array 8 117) := by kernel_rfl
theorem zc120 : zeroCells' Try.prog 120 = some [.int .i64 0, .int .i64 0, .int .i64 0, .int .i64 0, .int .i64 0, .int .i64 0, .int .i64 0, .int .i64 0, .int .i64 0, .int .i64 0, .int .i64 0, .int .i64 0, .int .i64 0, .int .i64 0, .int .i64 0, .int .i64 0, .int .i64 0, .int .i64 0, .pointer none, .pointer none, .pointer none, .pointer none, .pointer none, .pointer none, .pointer none, .pointer none, .int .i64 0, .int .i64 0, .int .i64 0, .int .i64 0, .int .i64 0, .int .i64 0, .int .i64 0, .int .i64 0, .int .i64 0, .int .i64 0, .int .i64 0, .int .i64 0, .int .i64 0, .int .i64 0, .int .i64 0, .int .i64 0, .int .i64 0] := by kernel_rfl
theorem pl120 : placesOf Try.prog 120 = some [(0, 1), (1, 1), (2, 8), (10, 8), (18, 8), (26, 1), (27, 8), (35, 8)] := by kernel_rfl
theorem fo120_0 : fieldOff Try.prog 120 0 = some 0 := by kernel_rfl
theorem fo120_1 : fieldOff Try.prog 120 1 = some 1 := by kernel_rfl
theorem fo120_2 : fieldOff Try.prog 120 2 = some 2 := by kernel_rfl
theorem fo120_3 : fieldOff Try.prog 120 3 = some 10 := by kernel_rfl
theorem fo120_4 : fieldOff Try.prog 120 4 = some 18 := by kernel_rfl
theorem fo120_5 : fieldOff Try.prog 120 5 = some 26 := by kernel_rfl
theorem fo120_6 : fieldOff Try.prog 120 6 = some 27 := by kernel_rfl
theorem fo120_7 : fieldOff Try.prog 120 7 = some 35 := by kernel_rfl
theorem un123 : Try.prog.underlying 123 = some (.int .u64) := by kernel_rfl
theorem us123 : (Try.prog.underlying 123).isSome = true := by kernel_rfl
theorem ta125 : tyAgg Try.prog 125 = some (false, 1) := by kernel_rfl
theorem un125 : Try.prog.underlying 125 = some (.int .u16) := by kernel_rfl
theorem us125 : (Try.prog.underlying 125).isSome = true := by kernel_rfl
theorem un127 : Try.prog.underlying 127 = some (.int .u64) := by kernel_rfl
theorem ta132 : tyAgg Try.prog 132 = some (false, 1) := by kernel_rfl
theorem ta140 : tyAgg Try.prog 140 = some (true, 2) := by kernel_rfl
theorem zc140 : zeroCells' Try.prog 140 = some [.slice none 0 0, .slice none 0 0] := by kernel_rfl
theorem pl140 : placesOf Try.prog 140 = some [(0, 1), (1, 1)] := by kernel_rfl
theorem fo140_0 : fieldOff Try.prog 140 0 = some 0 := by kernel_rfl
theorem fo140_1 : fieldOff Try.prog 140 1 = some 1 := by kernel_rfl
theorem zc142 : zeroCells' Try.prog 142 = some [.slice none 0 0, .slice none 0 0, .int .i64 0, .int .i64 0] := by kernel_rfl
theorem pl142 : placesOf Try.prog 142 = some [(0, 2), (2, 1), (3, 1)] := by kernel_rfl
theorem fo142_0 : fieldOff Try.prog 142 0 = some 0 := by kernel_rfl
theorem fo142_1 : fieldOff Try.prog 142 1 = some 2 := by kernel_rfl
theorem fo142_2 : fieldOff Try.prog 142 2 = some 3 := by kernel_rfl
theorem so148 : sliceOf Try.prog 148 = some (111, 1, 8) := by kernel_rfl
theorem ta149 : tyAgg Try.prog 149 = some (false, 1) := by kernel_rfl
theorem ta151 : tyAgg Try.prog 151 = some (true, 1) := by kernel_rfl
theorem zc151 : zeroCells' Try.prog 151 = some [.nilFunc] := by kernel_rfl
theorem pl151 : placesOf Try.prog 151 = some [(0, 1)] := by kernel_rfl
theorem fo151_0 : fieldOff Try.prog 151 0 = some 0 := by kernel_rfl
theorem zc171 : zeroCells' Try.prog 171 = some [.int .i64 0, .slice none 0 0, .bool false, S []] := by kernel_rfl
theorem pl171 : placesOf Try.prog 171 = some [(0, 1), (1, 1), (2, 1), (3, 1)] := by kernel_rfl
theorem fo171_0 : fieldOff Try.prog 171 0 = some 0 := by kernel_rfl
theorem fo171_1 : fieldOff Try.prog 171 1 = some 1 := by kernel_rfl
theorem fo171_2 : fieldOff Try.prog 171 2 = some 2 := by kernel_rfl
theorem fo171_3 : fieldOff Try.prog 171 3 = some 3 := by kernel_rfl
theorem zc175 : zeroCells' Try.prog 175 = some [.int .i64 0, .int .i64 0, .int .i64 0] := by kernel_rfl
theorem ar175 : Try.prog.underlying 175 = some (.array 3 3) := by kernel_rfl
theorem un176 : Try.prog.underlying 176 = some (.pointer 5) := by kernel_rfl
theorem ta179 : tyAgg Try.prog 179 = some (false, 1) := by kernel_rfl
theorem ta186 : tyAgg Try.prog 186 = some (true, 256) := by kernel_rfl
theorem ar186 : Try.prog.underlying 186 = some (.array 256 125) := by kernel_rfl
theorem cf8 : callable Try.prog 8 = true := by kernel_rfl
theorem cf9 : callable Try.prog 9 = true := by kernel_rfl
theorem cf10 : callable Try.prog 10 = true := by kernel_rfl
theorem cf11 : callable Try.prog 11 = true := by kernel_rfl
theorem cf12 : callable Try.prog 12 = true := by kernel_rfl
theorem cf13 : callable Try.prog 13 = true := by kernel_rfl
theorem cf15 : callable Try.prog 15 = true := by kernel_rfl
theorem cf16 : callable Try.prog 16 = true := by kernel_rfl
theorem cf17 : callable Try.prog 17 = true := by kernel_rfl
theorem cf18 : callable Try.prog 18 = true := by kernel_rfl
theorem cf19 : callable Try.prog 19 = true := by kernel_rfl
theorem cf20 : callable Try.prog 20 = true := by kernel_rfl
theorem cf21 : callable Try.prog 21 = true := by kernel_rfl
theorem cf27 : callable Try.prog 27 = true := by kernel_rfl
theorem cf28 : callable Try.prog 28 = true := by kernel_rfl
theorem cf29 : callable Try.prog 29 = true := by kernel_rfl
theorem cf30 : callable Try.prog 30 = true := by kernel_rfl
theorem cf31 : callable Try.prog 31 = true := by kernel_rfl
theorem cf32 : callable Try.prog 32 = true := by kernel_rfl
theorem cf33 : callable Try.prog 33 = true := by kernel_rfl
theorem cf34 : callable Try.prog 34 = true := by kernel_rfl
theorem cf36 : callable Try.prog 36 = true := by kernel_rfl
theorem cf37 : callable Try.prog 37 = true := by kernel_rfl
theorem cf38 : callable Try.prog 38 = true := by kernel_rfl
theorem cf39 : callable Try.prog 39 = true := by kernel_rfl
theorem cf40 : callable Try.prog 40 = true := by kernel_rfl
theorem cf41 : callable Try.prog 41 = true := by kernel_rfl
theorem cf42 : callable Try.prog 42 = true := by kernel_rfl
theorem cf43 : callable Try.prog 43 = true := by kernel_rfl
theorem cf44 : callable Try.prog 44 = true := by kernel_rfl
theorem cf45 : callable Try.prog 45 = true := by kernel_rfl
theorem cf46 : callable Try.prog 46 = true := by kernel_rfl
theorem cf47 : callable Try.prog 47 = true := by kernel_rfl
theorem cf48 : callable Try.prog 48 = true := by kernel_rfl
theorem cf49 : callable Try.prog 49 = true := by kernel_rfl
theorem cf50 : callable Try.prog 50 = true := by kernel_rfl
theorem cf51 : callable Try.prog 51 = true := by kernel_rfl
theorem cf52 : callable Try.prog 52 = true := by kernel_rfl
theorem cf53 : callable Try.prog 53 = true := by kernel_rfl
theorem cf54 : callable Try.prog 54 = true := by kernel_rfl
theorem cf55 : callable Try.prog 55 = true := by kernel_rfl
theorem cf56 : callable Try.prog 56 = true := by kernel_rfl
theorem cf57 : callable Try.prog 57 = true := by kernel_rfl
theorem cf58 : callable Try.prog 58 = true := by kernel_rfl
theorem cf59 : callable Try.prog 59 = true := by kernel_rfl
theorem cf60 : callable Try.prog 60 = true := by kernel_rfl
theorem cf61 : callable Try.prog 61 = true := by kernel_rfl
theorem cf62 : callable Try.prog 62 = true := by kernel_rfl
theorem cf63 : callable Try.prog 63 = true := by kernel_rfl
theorem cf64 : callable Try.prog 64 = true := by kernel_rfl
theorem cf65 : callable Try.prog 65 = true := by kernel_rfl
theorem cf66 : callable Try.prog 66 = true := by kernel_rfl
theorem cf67 : callable Try.prog 67 = true := by kernel_rfl
theorem cf68 : callable Try.prog 68 = true := by kernel_rfl
theorem cf69 : callable Try.prog 69 = true := by kernel_rfl
theorem cf70 : callable Try.prog 70 = true := by kernel_rfl
theorem cf71 : callable Try.prog 71 = true := by kernel_rfl
theorem cf72 : callable Try.prog 72 = true := by kernel_rfl
theorem cf73 : callable Try.prog 73 = true := by kernel_rfl
theorem cf80 : callable Try.prog 80 = true := by kernel_rfl
theorem cf81 : callable Try.prog 81 = true := by kernel_rfl
theorem cf82 : callable Try.prog 82 = true := by kernel_rfl
theorem cf83 : callable Try.prog 83 = true := by kernel_rfl
theorem cf84 : callable Try.prog 84 = true := by kernel_rfl
theorem cf85 : callable Try.prog 85 = true := by kernel_rfl
theorem cf86 : callable Try.prog 86 = true := by kernel_rfl
theorem cf87 : callable Try.prog 87 = true := by kernel_rfl
theorem cf88 : callable Try.prog 88 = true := by kernel_rfl
theorem cf89 : callable Try.prog 89 = true := by kernel_rfl
theorem cf90 : callable Try.prog 90 = true := by kernel_rfl
theorem cf92 : callable Try.prog 92 = true := by kernel_rfl
theorem cf93 : callable Try.prog 93 = true := by kernel_rfl
theorem cf94 : callable Try.prog 94 = true := by kernel_rfl
theorem cf100 : callable Try.prog 100 = true := by kernel_rfl
theorem cf101 : callable Try.prog 101 = true := by kernel_rfl
theorem cf102 : callable Try.prog 102 = true := by kernel_rfl
theorem cf103 : callable Try.prog 103 = true := by kernel_rfl
theorem cf106 : callable Try.prog 106 = true := by kernel_rfl
end Sx
end Go.Proofs.Ytdgphamhpjnmpaa

/- Package crc and its reference: sums of 16 bits. -/
namespace Go.Proofs.Ytdgphamhpjnmpaa
namespace Sx

abbrev w16 (r : BitVec 16) : Value := .int .u16 r.toNat
theorem u16_wrap (m : Int) : IntKind.u16.wrap m = m % 65536 := rfl
theorem w16_shl (r : BitVec 16) (n : Nat) (_hn : n ≤ 16) : IntKind.u16.wrap ((r.toNat : Int) * 2 ^ n) = ((r <<< n).toNat : Int) := by
  rw [u16_wrap, BitVec.toNat_shiftLeft, Nat.shiftLeft_eq, Int.natCast_emod, Int.natCast_mul, Int.natCast_pow]
  rfl
theorem w16_shr (r : BitVec 16) (n : Nat) : (r.toNat : Int).fdiv (2 ^ n) = ((r >>> n).toNat : Int) := by
  rw [BitVec.toNat_ushiftRight, Nat.shiftRight_eq_div_pow, Int.fdiv_eq_ediv_of_nonneg _ (Int.pow_nonneg (by decide)), Int.natCast_ediv, Int.natCast_pow]
  rfl
theorem w16_xor (a b : BitVec 16) : bits2 .xor .u16 a.toNat b.toNat = ((a ^^^ b).toNat : Int) := by
  have e : ∀ x : BitVec 16, BitVec.ofInt IntKind.u16.bits (x.toNat : Int) = x := by
    intro x
    show BitVec.ofInt 16 (x.toNat : Int) = x
    rw [BitVec.ofInt_natCast, BitVec.ofNat_toNat]; simp
  show IntKind.u16.wrap ((BitVec.ofInt IntKind.u16.bits (a.toNat : Int) ^^^ BitVec.ofInt IntKind.u16.bits (b.toNat : Int)).toNat : Int) = _
  rw [e, e, u16_wrap]
  have := (a ^^^ b).isLt
  show (((a ^^^ b).toNat : Int)) % 65536 = _
  omega
/-- a bit goes into the register -/
def bitR (r b : BitVec 16) : BitVec 16 := if r >>> 15 ≠ b then (r <<< 1) ^^^ 0x1021#16 else r <<< 1
theorem bit16_ok (r b : BitVec 16) : Fn Try.prog 103 #[w16 r, w16 b] [] (Ret fun v Q => v = w16 (bitR r b) ∧ Q = []) := by
  refine Fn.of (args := _) Try.func103 rfl Try.ntmps103 rfl ?_
  intro w0 g0
  refine CW.seq ?_
  refine CW.region ?_
  refine LW.v (ov_assign rfl) ?_
  refine LW.nil ?_
  refine KW.thenN ?_
  refine CW.seq ?_
  refine CW.region ?_
  refine LW.v (ov_move rfl) ?_
  refine LW.v (OpV.eq (ov_shr rfl rfl (by decide)) (congrArg (Value.int .u16) (w16_shr r 15))) ?_
  refine LW.v (ov_assign rfl) ?_
  refine LW.nil ?_
  refine KW.thenN ?_
  refine CW.seq ?_
  refine CW.region ?_
  refine LW.v (ov_move rfl) ?_
  refine LW.v (OpV.eq (ov_shl rfl rfl (by decide)) (congrArg (Value.int .u16) (w16_shl r 1 (by decide)))) ?_
  refine LW.v (ov_assign rfl) ?_
  refine LW.nil ?_
  refine KW.thenN ?_
  refine CW.seq ?_
  refine CW.seq ?_
  refine CW.region ?_
  refine LW.v (ov_move rfl) ?_
  refine LW.v (ov_move rfl) ?_
  refine LW.v (ov_neq rfl rfl) ?_
  refine LW.nil ?_
  refine KW.thenN ?_
  refine CW.condD (by rfl) (fun h => ?_) (fun h => ?_)
  · refine CW.region ?_
    refine LW.v (ov_move rfl) ?_
    refine LW.v (ov_bits (.inr (.inr (.inl rfl))) rfl rfl (w16_xor (r <<< 1) 0x1021#16)) ?_
    refine LW.v (ov_assign rfl) ?_
    refine LW.nil ?_
    refine KW.thenN ?_
    refine CW.seq ?_
    refine CW.region ?_
    refine LW.v (ov_move rfl) ?_
    refine LW.v (ov_assign rfl) ?_
    refine LW.nil ?_
    refine KW.thenN ?_
    refine CW.ret ?_
    have h' : r >>> 15 ≠ b := fun e => h (by rw [e])
    exact KW.retF (.cons (.tmp rfl) .nil) [] rfl rfl ⟨by rw [bitR, if_pos h']; rfl, rfl⟩
  · refine CW.skip ?_
    refine KW.thenN ?_
    refine CW.seq ?_
    refine CW.region ?_
    refine LW.v (ov_move rfl) ?_
    refine LW.v (ov_assign rfl) ?_
    refine LW.nil ?_
    refine KW.thenN ?_
    refine CW.ret ?_
    have h' : ¬ r >>> 15 ≠ b := by
      intro q; apply q
      have : ((r >>> 15).toNat : Int) = b.toNat := by simpa using h
      exact BitVec.eq_of_toNat_eq (by omega)
    exact KW.retF (.cons (.tmp rfl) .nil) [] rfl rfl ⟨by rw [bitR, if_neg h']; rfl, rfl⟩
end Sx
end Go.Proofs.Ytdgphamhpjnmpaa

/- The reference's sum of 16 bits. -/
namespace Go.Proofs.Ytdgphamhpjnmpaa
namespace Sx

def bitOf (c : UInt8) (k : Nat) : BitVec 16 := BitVec.ofNat 16 (c.toNat / 2 ^ k % 2)
/-- the bits below number k of a byte, the highest first -/
def bitsR (c : UInt8) : Nat → BitVec 16 → BitVec 16
  | 0, r => r
  | k + 1, r => bitsR c k (bitR r (bitOf c k))
def nextR (r : BitVec 16) (l : List UInt8) : BitVec 16 := l.foldl (fun r c => bitsR c 8 r) r
theorem RNext16_ok (r : BitVec 16) {l : List UInt8} (hl : l.length ≤ 1000000000) : Fn Try.prog 93 #[w16 r, S l] [] (Ret fun v Q => v = w16 (nextR r l) ∧ Q = []) := by
  refine Fn.of (args := _) Try.func93 rfl Try.ntmps93 rfl ?_
  intro w0 g0
  refine CW.seq ?_
  refine CW.region ?_
  refine LW.v (ov_assign rfl) ?_
  refine LW.nil ?_
  refine KW.thenN ?_
  refine CW.seq ?_
  refine CW.seq ?_
  refine CW.region ?_
  refine LW.v (ov_assign rfl) ?_
  refine LW.nil ?_
  refine KW.thenN ?_
  refine CW.block ?_
  refine CW.loopW (fun n env As => ∃ (k : Nat) (r' : BitVec 16), k + n = l.length ∧ nextR r' (l.drop k) = nextR r l ∧ env = [(0, w16 r'), (1, S l), (5, .int .i64 k)] ∧ As = [ex g0]) l.length [0] ⟨0, r, by simp, rfl, rfl, rfl⟩ ⟨rfl, rfl, rfl, trivial⟩ rfl rfl ?_
  rintro n _ _ ⟨k, r', hkn, hnx, rfl, rfl⟩
  refine CW.seq ?_
  refine CW.seq ?_
  refine CW.region ?_
  refine LW.v (ov_move rfl) ?_
  refine LW.v (ov_move rfl) ?_
  refine LW.v (ov_lenS un9 rfl) ?_
  refine LW.v (ov_lss rfl rfl) ?_
  refine LW.nil ?_
  refine KW.thenN ?_
  refine CW.condD (by rfl) (fun h => ?_) (fun h => ?_)
  · have hk : k < l.length := by omega
    have hc : l[k]? = some l[k] := List.getElem?_eq_getElem hk
    rw [List.drop_eq_getElem_cons hk] at hnx
    generalize l[k] = c at hc hnx
    change nextR (bitsR c 8 r') (l.drop (k + 1)) = _ at hnx
    refine CW.skip ?_
    refine KW.thenN ?_
    refine CW.seq ?_
    refine CW.block ?_
    refine CW.seq ?_
    refine CW.region ?_
    refine LW.v (ov_assign rfl) ?_
    refine LW.nil ?_
    refine KW.thenN ?_
    refine CW.block ?_
    refine CW.loopW (fun n2 env As => ∃ (r2 : BitVec 16), n2 ≤ 8 ∧ bitsR c n2 r2 = bitsR c 8 r' ∧ env = [(0, w16 r2), (1, S l), (5, .int .i64 k), (6, .int .i64 ((n2 : Int) - 1))] ∧ As = [ex g0]) 8 [0] ⟨r', by omega, rfl, rfl, rfl⟩ ⟨rfl, rfl, rfl, rfl, trivial⟩ rfl rfl ?_
    rintro n2 _ _ ⟨r2, h8, hb, rfl, rfl⟩
    refine CW.seq ?_
    refine CW.seq ?_
    refine CW.region ?_
    refine LW.v (ov_move rfl) ?_
    refine LW.v (ov_geq rfl rfl) ?_
    refine LW.nil ?_
    refine KW.thenN ?_
    refine CW.condD (by rfl) (fun h2 => ?_) (fun h2 => ?_)
    · obtain ⟨m, rfl⟩ : ∃ m, n2 = m + 1 := ⟨n2 - 1, by omega⟩
      change bitsR c m (bitR r2 (bitOf c m)) = _ at hb
      have hcl := c.toNat_lt
      have e21 : IntKind.u16.wrap c.toNat = c.toNat := by rw [u16_wrap]; omega
      have e23 : IntKind.u64.wrap (((m + 1 : Nat) : Int) - 1) = m := by
        have : ((m + 1 : Nat) : Int) - 1 = m := by omega
        rw [this]
        show (m : Int) % (2 ^ 64 : Nat) = m
        omega
      have e24 : ((c.toNat : Int)).fdiv (2 ^ (min ((m : Int)).toNat IntKind.u16.bits)) = (c.toNat / 2 ^ m : Nat) := by
        have : min ((m : Int)).toNat IntKind.u16.bits = m := by
          show min (m : Int).toNat 16 = m
          omega
        rw [this, Int.fdiv_eq_ediv_of_nonneg _ (Int.pow_nonneg (by decide)), Int.natCast_ediv, Int.natCast_pow]; rfl
      have e25 : (((c.toNat / 2 ^ m : Nat) : Int)) % 2 = ((bitOf c m).toNat : Int) := by
        rw [bitOf, BitVec.toNat_ofNat]; omega
      refine CW.skip ?_
      refine KW.thenN ?_
      refine CW.seq ?_
      refine CW.block ?_
      refine CW.region ?_
      refine LW.v (ov_move rfl) ?_
      refine LW.v (ov_move rfl) ?_
      refine LW.v (ov_move rfl) ?_
      refine LW.v (ov_strIdx un9 rfl rfl rfl hc) ?_
      refine LW.v (OpV.eq (ov_toInt un125 us5 rfl) (congrArg (Value.int .u16) e21)) ?_
      refine LW.v (ov_move rfl) ?_
      refine LW.v (OpV.eq (ov_toInt un127 us3 rfl) (congrArg (Value.int .u64) e23)) ?_
      refine LW.v (OpV.eq (ov_shr rfl rfl (by omega)) (congrArg (Value.int .u16) e24)) ?_
      refine LW.v (OpV.eq (ov_rem rfl rfl (Int.natCast_nonneg _) (by omega)) (congrArg (Value.int .u16) e25)) ?_
      refine LW.call [] (oc_fn cf103 rfl) rfl rfl rfl rfl (bit16_ok r2 (bitOf c m)) ?_
      rintro _ _ ⟨rfl, rfl⟩
      simp only [putBack, List.append_nil]
      refine LW.v (ov_assign rfl) ?_
      refine LW.nil ?_
      refine KW.blockN ?_
      refine KW.thenN ?_
      refine CW.region ?_
      refine LW.v (ov_move rfl) ?_
      refine LW.v (OpV.eq (ov_sub rfl rfl (by omega)) (congrArg (Value.int .i64) (show ((m + 1 : Nat) : Int) - 1 - 1 = (m : Int) - 1 by omega))) ?_
      refine LW.v (ov_assign rfl) ?_
      refine LW.nil ?_
      exact KW.again m [0] (by omega) ⟨bitR r2 (bitOf c m), by omega, hb, rfl, rfl⟩ ⟨rfl, rfl, rfl, rfl, trivial⟩ rfl rfl
    · have hn0 : n2 = 0 := by omega
      subst hn0
      change r2 = _ at hb
      subst hb
      refine CW.exit ?_
      refine KW.thenX ?_
      refine KW.thenX ?_
      refine KW.hit ?_
      refine KW.blockN ?_
      refine KW.thenN ?_
      refine CW.region ?_
      refine LW.v (ov_move rfl) ?_
      first | refine LW.v (ov_add rfl rfl (by omega)) ?_ | refine LW.v (ov_addW rfl rfl) ?_
      refine LW.v (ov_assign rfl) ?_
      refine LW.nil ?_
      exact KW.again (n - 1) [0] (by omega) ⟨k + 1, bitsR c 8 r', by omega, hnx, rfl, rfl⟩ ⟨rfl, rfl, rfl, trivial⟩ rfl rfl
  · have hk : k = l.length := by omega
    subst hk
    rw [List.drop_length] at hnx
    change r' = _ at hnx
    subst hnx
    refine CW.exit ?_
    refine KW.thenX ?_
    refine KW.thenX ?_
    refine KW.hit ?_
    refine KW.thenN ?_
    refine CW.seq ?_
    refine CW.region ?_
    refine LW.v (ov_move rfl) ?_
    refine LW.v (ov_assign rfl) ?_
    refine LW.nil ?_
    refine KW.thenN ?_
    refine CW.ret ?_
    exact KW.retF (.cons (.tmp rfl) .nil) [] rfl rfl ⟨rfl, rfl⟩
end Sx
end Go.Proofs.Ytdgphamhpjnmpaa

/- Sums of 16 bits: by a table, or bit by bit: the same. -/
namespace Go.Proofs.Ytdgphamhpjnmpaa
namespace Sx

/-- a step without a bit -/
def st16 (x : BitVec 16) : BitVec 16 := (x <<< 1) ^^^ (if x.msb then 0x1021#16 else 0#16)
theorem xor4 (a b k l : BitVec 16) : (a ^^^ b) ^^^ (k ^^^ l) = (a ^^^ k) ^^^ (b ^^^ l) := by
  apply BitVec.eq_of_getLsbD_eq
  intro i hi
  simp only [BitVec.getLsbD_xor]
  cases a.getLsbD i <;> cases b.getLsbD i <;> cases k.getLsbD i <;> cases l.getLsbD i <;> rfl
theorem st16_xor (x y : BitVec 16) : st16 (x ^^^ y) = st16 x ^^^ st16 y := by
  unfold st16
  rw [BitVec.shiftLeft_xor_distrib, BitVec.msb_xor]
  have hk : (if (x.msb ^^ y.msb) = true then 0x1021#16 else 0#16) = (if x.msb = true then 0x1021#16 else 0#16) ^^^ (if y.msb = true then 0x1021#16 else 0#16) := by
    cases x.msb <;> cases y.msb <;> rfl
  rw [hk, xor4]
theorem bitR_st (r b : BitVec 16) (hb : b = 0#16 ∨ b = 1#16) : bitR r b = st16 (r ^^^ (b <<< 15)) := by
  have hm : r >>> 15 = if r.msb then 1#16 else 0#16 := by
    apply BitVec.eq_of_toNat_eq
    rw [BitVec.toNat_ushiftRight, BitVec.msb_eq_decide, Nat.shiftRight_eq_div_pow]
    have := r.isLt
    by_cases q : 2 ^ 15 ≤ r.toNat
    · simp [q]; omega
    · simp [q]; omega
  unfold bitR st16
  rw [hm, BitVec.shiftLeft_xor_distrib, BitVec.msb_xor]
  have h0 : ((0#16 : BitVec 16) <<< 15).msb = false := by decide
  have h1 : ((1#16 : BitVec 16) <<< 15).msb = true := by decide
  rcases hb with rfl | rfl
  · rw [h0]; cases r.msb <;> simp
  · rw [h1]; cases r.msb <;> simp
def stN : Nat → BitVec 16 → BitVec 16
  | 0, x => x
  | n + 1, x => stN n (st16 x)
theorem stN_xor : ∀ (n : Nat) (x y : BitVec 16), stN n (x ^^^ y) = stN n x ^^^ stN n y := by
  intro n; induction n with
  | zero => intro x y; rfl
  | succ n ih => intro x y; simp only [stN, st16_xor, ih]
def cb (c : UInt8) : BitVec 16 := BitVec.ofNat 16 c.toNat
def lowB (c : Nat) (m : Nat) : BitVec 16 := BitVec.ofNat 16 (c % 2 ^ m)
theorem low_step : ∀ (c : Fin 256) (m : Fin 8), lowB c (m + 1) <<< (15 - m.val) = (BitVec.ofNat 16 (c.val / 2 ^ m.val % 2) <<< 15) ^^^ (lowB c m <<< (15 - m.val)) ∧ st16 (lowB c m <<< (15 - m.val)) = lowB c m <<< (16 - m.val) := by decide +kernel
theorem low_byte : ∀ b : Fin 256, stN 8 (BitVec.ofNat 16 b.val) = BitVec.ofNat 16 b.val <<< 8 := by decide +kernel
theorem bitsR_st (c : UInt8) : ∀ (m : Nat), m ≤ 8 → ∀ r : BitVec 16, bitsR c m r = stN m (r ^^^ (lowB c.toNat m <<< (16 - m))) := by
  intro m; induction m with
  | zero => intro _ r; simp [bitsR, stN, lowB, Nat.mod_one]
  | succ m ih =>
    intro hm r
    obtain ⟨h1, h2⟩ := low_step ⟨c.toNat, c.toNat_lt⟩ ⟨m, by omega⟩
    simp only at h1 h2
    have hb : bitOf c m = 0#16 ∨ bitOf c m = 1#16 := by
      unfold bitOf
      have : c.toNat / 2 ^ m % 2 = 0 ∨ c.toNat / 2 ^ m % 2 = 1 := by omega
      rcases this with h | h <;> rw [h] <;> simp
    simp only [bitsR, stN]
    rw [ih (by omega), bitR_st _ _ hb, show 16 - (m + 1) = 15 - m from by omega, h1]
    have e : r ^^^ (BitVec.ofNat 16 (c.toNat / 2 ^ m % 2) <<< 15 ^^^ lowB c.toNat m <<< (15 - m)) = (r ^^^ bitOf c m <<< 15) ^^^ lowB c.toNat m <<< (15 - m) := by
      rw [← BitVec.xor_assoc]; rfl
    rw [e, st16_xor (r ^^^ bitOf c m <<< 15), h2]
theorem half16 (r : BitVec 16) : r = ((r >>> 8) <<< 8) ^^^ BitVec.ofNat 16 (r.toNat % 2 ^ 8) := by
  apply BitVec.eq_of_getLsbD_eq
  intro i hi
  rw [BitVec.getLsbD_xor, BitVec.getLsbD_shiftLeft, BitVec.getLsbD_ushiftRight, BitVec.getLsbD_ofNat, Nat.testBit_mod_two_pow]
  by_cases q : i < 8
  · simp [q, hi, BitVec.getLsbD]
  · have : 8 + (i - 8) = i := by omega
    simp [q, hi, this]
theorem shl8 (r : BitVec 16) : BitVec.ofNat 16 (r.toNat % 2 ^ 8) <<< 8 = r <<< 8 := by
  apply BitVec.eq_of_getLsbD_eq
  intro i hi
  rw [BitVec.getLsbD_shiftLeft, BitVec.getLsbD_shiftLeft, BitVec.getLsbD_ofNat, Nat.testBit_mod_two_pow]
  by_cases q : i < 8
  · simp [q]
  · have h1 : i - 8 < 8 := by omega
    have h2 : i - 8 < 16 := by omega
    simp [q, h1, h2, BitVec.getLsbD]
/-- what a byte in front of the register becomes -/
def tab16 (i : BitVec 16) : BitVec 16 := stN 8 (i <<< 8)
theorem byte16 (c : UInt8) (r : BitVec 16) : bitsR c 8 r = (r <<< 8) ^^^ tab16 ((r >>> 8) ^^^ cb c) := by
  rw [bitsR_st c 8 (Nat.le_refl _) r]
  have hc : lowB c.toNat 8 = cb c := by
    unfold lowB cb
    rw [Nat.mod_eq_of_lt (show c.toNat < 2 ^ 8 from c.toNat_lt)]
  rw [hc]
  have e : r ^^^ cb c <<< (16 - 8) = ((r >>> 8 ^^^ cb c) <<< 8) ^^^ BitVec.ofNat 16 (r.toNat % 2 ^ 8) := by
    conv => lhs; rw [half16 r]
    rw [BitVec.shiftLeft_xor_distrib, BitVec.xor_assoc, BitVec.xor_assoc, BitVec.xor_comm (BitVec.ofNat 16 (r.toNat % 2 ^ 8))]
  rw [e, stN_xor]
  have hl := low_byte ⟨r.toNat % 2 ^ 8, Nat.mod_lt _ (by decide)⟩
  simp only at hl
  rw [hl, shl8, BitVec.xor_comm]; rfl
def nextT (r : BitVec 16) (l : List UInt8) : BitVec 16 := l.foldl (fun r c => (r <<< 8) ^^^ tab16 ((r >>> 8) ^^^ cb c)) r
theorem nextT_eq (l : List UInt8) : ∀ r, nextT r l = nextR r l := by
  induction l with
  | nil => intro r; rfl
  | cons c l ih => intro r; simp only [nextT, nextR, List.foldl_cons] at ih ⊢; rw [byte16]; exact ih _
end Sx
end Go.Proofs.Ytdgphamhpjnmpaa

/- Ranges over functions. -/
namespace Go.Proofs.Ytdgphamhpjnmpaa
namespace Sx

/-- a loop's record: its frame's slots as they were when the loop began -/
def loopA (l N : Nat) (env : Env) (fn : FuncId) (ps : Array Tmp) (assign body : Code) (st : LoopState) (pd : Option Code) : HP := fun h => ∃ (tmps : Array Value) (d : Nat), EnvOk N [] env { tmps := tmps, defers := [] } ∧
  h = one l (.loop { state := st, pending := pd, fn, tmps, params := ps, assign, body, defers := d })
theorem Sat.loopGet {w : World} {As : List HP} (h : Sat w As) (i : Nat) {l N : Nat} {env : Env} {fn : FuncId} {ps : Array Tmp} {assign body : Code} {st : LoopState} {pd : Option Code} (hi : As[i]? = some (loopA l N env fn ps assign body st pd)) :
    ∃ (tmps : Array Value) (d : Nat), EnvOk N [] env { tmps := tmps, defers := [] } ∧ w.heap[l]? = some (.loop { state := st, pending := pd, fn, tmps, params := ps, assign, body, defers := d }) ∧
      ∀ st' pd', Sat (w.putObj l (.loop { state := st', pending := pd', fn, tmps, params := ps, assign, body, defers := d })) (As.set i (loopA l N env fn ps assign body st' pd')) := by
  obtain ⟨g, ⟨tmps, d, he, rfl⟩, hs⟩ := h.take i hi
  have hli := lt_of_get hi
  have hset : (As.set i (ex (one l (.loop { state := st, pending := pd, fn, tmps, params := ps, assign, body, defers := d }))))[i]? = some (pts l (.loop { state := st, pending := pd, fn, tmps, params := ps, assign, body, defers := d })) := by
    rw [List.getElem?_set_self hli]; rfl
  have hb := hs.get i hset
  refine ⟨tmps, d, he, hb, fun st' pd' => ?_⟩
  have hlt : l < w.heap.size := (Array.getElem?_eq_some_iff.1 hb).1
  have h1 := hs.setHeap (w' := w.putObj l (.loop { state := st', pending := pd', fn, tmps, params := ps, assign, body, defers := d })) i hset (World.putObj_heap_same hlt) (fun k hk => World.putObj_heap_other hk)
  have h2 := h1.imp i (B := loopA l N env fn ps assign body st' pd') (by rw [List.getElem?_set_self (by simpa using hli)]; rfl) (fun g hg => ⟨tmps, d, he, hg⟩)
  rw [List.set_set, List.set_set] at h2; exact h2
theorem Same.putObj (w : World) (l : Nat) (o : Obj) : Same w (w.putObj l o) := ⟨rfl, rfl, rfl⟩

/-! ### A round -/
def YdPost (post : Bool → List HP → Prop) (w : World) (hf : Hl) : Ending → World → Prop := fun e w' => ∃ b Q, e = .returned (.bool b) ∧ post b Q ∧ Sat w' (ex hf :: Q) ∧ Same w w'
/-- What a call of yield does. -/
def Yd (P : Program) (l : Nat) (vs : Array Value) (pre : List HP) (post : Bool → List HP → Prop) : Prop :=
  ∀ (w : World) (hf : Hl), Sat w (ex hf :: pre) → ∃ f tmps assign body, (Instr.yield l vs).run P w = .ok (.round l f tmps assign body) w ∧ RoundIn Fence.wide 0 P l f tmps assign body w (YdPost post w hf)
theorem Yd.mono {P : Program} {l : Nat} {vs : Array Value} {pre : List HP} {post post' : Bool → List HP → Prop} (h : Yd P l vs pre post) (hp : ∀ b Q, post b Q → post' b Q) : Yd P l vs pre post' := fun w hf hs => by
  obtain ⟨f, tmps, assign, body, h1, h2⟩ := h w hf hs
  exact ⟨f, tmps, assign, body, h1, h2.mono fun e w' ⟨b, Q, e1, e2, e3⟩ => ⟨b, Q, e1, hp b Q e2, e3⟩⟩
/-- slots that yield's arguments fill -/
def parE : List (Tmp × Value) → Env → Env
  | [], env => env
  | (t, v) :: r, env => parE r ((t, v) :: env)
theorem parOk {N : Nat} : ∀ (l : List (Tmp × Value)) (env : Env) (tmps : Array Value), (∀ p ∈ l, p.1 < N) → EnvOk N [] env { tmps := tmps, defers := [] } →
    EnvOk N [] (parE l env) { tmps := l.foldl (fun tmps (x : Tmp × Value) => tmps.setIfInBounds x.1 x.2) tmps, defers := [] } := by
  intro l; induction l with
  | nil => intro env tmps _ h; exact h
  | cons p r ih =>
    intro env tmps hl h
    obtain ⟨t, v⟩ := p
    have ht : t < N := hl (t, v) (by simp)
    refine ih ((t, v) :: env) (tmps.setIfInBounds t v) (fun q hq => hl q (by simp [hq])) ⟨by simpa using h.size, rfl, fun s u hu => ?_⟩
    rw [alook_cons] at hu
    have hsz : t < tmps.size := h.size.symm ▸ ht
    by_cases e : t = s
    · subst e; rw [if_pos rfl] at hu; simp only [Option.some.injEq] at hu; subst hu; simp [hsz]
    · rw [if_neg e] at hu
      have := h.slot s u hu
      simp only at this
      simpa [Array.getElem?_setIfInBounds, e] using this
/-- where the assignments to the loop's left sides end -/
def BeginK (P : Program) (l : Nat) (body : Code) (R : Ending → World → Prop) : Act → World → Prop := fun a₁ w₁ => ∃ w₂, (Instr.beginRound l).run P w₁ = .ok () w₂ ∧ body.wpIn (Fence.wide.inRound l) 0 P (roundPost P l R) a₁ w₂
theorem Yd.of {P : Program} {l N : Nat} {env : Env} {fn : FuncId} {ps : List Tmp} {assign body : Code} {vs : List Value} {pre : List HP} {post : Bool → List HP → Prop} (hp : vs.length = ps.length) (hN : (ps.all fun t => Nat.ble (t + 1) N) = true)
    (h : ∀ (w : World) (g : Hl), CW ⟨P, w, N, some l⟩ [] (Exit.then (BeginK P l body (YdPost post w g)) (fun _ _ _ => False)) assign (parE (ps.zip vs) env) (ex g :: loopA l N env fn ps.toArray assign body .ready none :: pre)) :
    Yd P l vs.toArray (loopA l N env fn ps.toArray assign body .ready none :: pre) post := by
  intro w g hs
  obtain ⟨tmps, d, he, hb, _⟩ := hs.loopGet 1 rfl
  refine ⟨fn, _, assign, body, run_yield hb (by simpa using hp), ?_⟩
  refine roundIn_of_wpIn trivial ?_
  have hok := parOk (ps.zip vs) env tmps (fun p hp => by
    have h1 := List.of_mem_zip hp
    have h2 := List.all_eq_true.1 hN p.1 h1.1
    exact Nat.le_of_ble_eq_true h2) he
  have h1 := h w g _ w hok hs (Same.refl w)
  have e : (ps.toArray.zip vs.toArray).foldl (fun tmps (x : Tmp × Value) => tmps.setIfInBounds x.1 x.2) tmps = (ps.zip vs).foldl (fun tmps (x : Tmp × Value) => tmps.setIfInBounds x.1 x.2) tmps := by
    simp
  simp only at e ⊢
  rw [e]
  exact h1
section
variable {P : Program} {w0 : World} {N l : Nat} {env env' : Env} {As : List HP} {fn : FuncId} {ps : Array Tmp} {assign body : Code}
theorem KW.begin {R : Ending → World → Prop} (i : Nat) {st : LoopState} {pd : Option Code} {As' : List HP} (hst : st = .ready) (hi : As[i]? = some (loopA l N env fn ps assign body st pd)) (hA : As.set i (loopA l N env fn ps assign body .busy pd) = As')
    {body' : Code} (h : CW ⟨P, w0, N, some l⟩ [] (roundPost P l R) body' env' As') : KW ⟨P, w0, N, some l⟩ [] (BeginK P l body' R) env' As := fun a w ha hs hw => by
  subst hst; subst hA
  obtain ⟨tmps, d, he, hb, hput⟩ := hs.loopGet i hi
  exact ⟨_, run_beginRound hb rfl, h a _ ha (hput .busy pd) (hw.trans (Same.putObj w l _))⟩
theorem KW.round {post : Bool → List HP → Prop} {g : Hl} {e : Exit} (jump : Option Code) (he : (e = .normal ∧ jump = none) ∨ (e = .ret ∧ jump = some .ret) ∨ (∃ id, e = .exit id ∧ jump = some (.exit id))) (i : Nat) {st : LoopState} {pd : Option Code} (hi : As[i]? = some (loopA l N env fn ps assign body st pd)) (is : List Nat) {Q' : List HP}
    (hok : okIdx (0 :: is) As.length = true) (hq : picks (0 :: is) (As.set i (loopA l N env fn ps assign body (if jump.isNone then .ready else .done) jump)) = ex g :: Q') (hpost : post jump.isNone Q') :
    KW ⟨P, w0, N, some l⟩ [] (roundPost P l (YdPost post w0 g) e) env' As := fun a w ha hs hw => by
  obtain ⟨tmps, d, _, hb, hput⟩ := hs.loopGet i hi
  have hend := run_endRound (P := P) jump hb
  have hs2 := (hput (if jump.isNone then .ready else .done) jump).picks (0 :: is) (by simpa using hok)
  rw [hq] at hs2
  have key : ∃ v w', (Instr.endRound l jump).run P w = .ok v w' ∧ YdPost post w0 g (.returned v) w' :=
    ⟨_, _, hend, ⟨jump.isNone, Q', rfl, hpost, hs2, hw.trans (Same.putObj w l _)⟩⟩
  rcases he with ⟨rfl, rfl⟩ | ⟨rfl, rfl⟩ | ⟨id, rfl, rfl⟩ <;> exact key
end
section
variable {C : Cx} {ds : List Deferred} {Q : Exit → Act → World → Prop} {env : Env} {As : List HP} {ops : Array Oper} {rest : List Oper} {dt : Tmp} {ty : TypeId} {pos : String} {af : Array Edge} {gd : Option (Nat × Bool)}
theorem LW.yield {l : Nat} {g : Operand} {args : Array Operand} {ats : Array TypeId} {vs : List Value} {post : Bool → List HP → Prop} (is : List Nat) (hgv : evo env g = some (.func (.yield l) #[] #[])) (hv : evs env args.toList = some vs)
    (hg : wantedE ops env ⟨some dt, .call ⟨.value g, args, ats⟩, ty, pos, af, gd⟩ = some true) (hd : Nat.ble (dt + 1) C.N = true) (hok : okIdx is As.length = true) {pre : List HP} (hp : picks is As = pre) (hY : Yd C.P l vs.toArray pre post)
    (hn : ∀ b Q', post b Q' → LW C ds ops Q rest ((dt, .bool b) :: env) (putBack is Q' As)) (hrd : C.rd = none := by rfl) : LW C ds ops Q (⟨some dt, .call ⟨.value g, args, ats⟩, ty, pos, af, gd⟩ :: rest) env As := by
  subst hp
  intro a w ha hs hw
  have h1 := evalsA ha hv
  obtain ⟨hf, hs', hback⟩ := hs.lend is hok
  obtain ⟨f, tmps, assign, body, hy, hround⟩ := hY w hf hs'
  have hrun : (execOp a.eval ⟨some dt, .call ⟨.value g, args, ats⟩, ty, pos, af, gd⟩).run C.P w = .ok (.round l f tmps assign body) w := by
    simp [execOp, resolve, h1, ha.eval hgv, Deferred.ofValue, invoke, hy]
  unfold wpListIn
  rw [if_pos (ha.wanted hg)]
  refine ⟨fun _ _ => trivial, ?_⟩
  rw [semAt_run hrun (fun _ => by simp), Oper.uponIn_round]
  refine ⟨C.depth, ?_⟩
  have hF : C.F = Fence.wide := by unfold Cx.F; rw [hrd]; rfl
  rw [hF]
  refine hround.mono fun e w' ⟨b, Q', e1, hpost, hs2, hsame⟩ => ?_
  subst e1
  have h2 := hn b Q' hpost (a.put (some dt) (.bool b)) w' (ha.put (d := some dt) hd (.bool b)) (hback w' Q' hs2) (hw.trans hsame)
  rw [hF] at h2; exact h2

/-! ### The statement -/
def dfA (d : Nat) : HP := pts d (.deferred (some []))
/-- the mark that a loop leaves among the deferred calls -/
abbrev markD (d : Nat) : Deferred := { target := .collected d, args := #[] }
theorem Sat.init {w : World} {As : List HP} {B : HP} (h : Sat w (As ++ [B])) : Sat w As := by
  obtain ⟨H, al⟩ := h
  exact ⟨H, fun i A hi => al.ok i A (by rw [List.getElem?_append_left (lt_of_get hi)]; exact hi), fun i j hi hj hij => al.dj i j (by simp; omega) (by simp; omega) hij, fun i hi => al.inn i (by simp; omega)⟩
theorem Sat.drop1 {w : World} {As : List HP} {A B : HP} (h : Sat w (A :: B :: As)) : Sat w (A :: As) := by
  obtain ⟨H, al⟩ := h
  refine ⟨fun i => if i = 0 then H 0 else H (i + 1), fun i D hi => ?_, fun i j hi hj hij => ?_, fun i hi => ?_⟩
  · cases i with
    | zero => exact al.ok 0 D hi
    | succ i => exact al.ok (i + 2) D (by simpa using hi)
  · simp only [List.length_cons] at hi hj
    cases i with
    | zero => cases j with
      | zero => exact absurd rfl hij
      | succ j => exact al.dj 0 (j + 2) (by simp) (by simp; omega) (by omega)
    | succ i => cases j with
      | zero => exact al.dj (i + 2) 0 (by simp; omega) (by simp) (by omega)
      | succ j => exact al.dj (i + 2) (j + 2) (by simp; omega) (by simp; omega) (by omega)
  · simp only [List.length_cons] at hi
    cases i with
    | zero => exact al.inn 0 (by simp)
    | succ i => exact al.inn (i + 2) (by simp; omega)
theorem Sat.rot {w : World} {As : List HP} {A B : HP} (h : Sat w (A :: As ++ [B])) : Sat w (A :: B :: As) := by
  obtain ⟨H, al⟩ := h
  let m : Nat → Nat := fun i => if i = 0 then 0 else if i = 1 then As.length + 1 else i - 1
  have hm : ∀ i, i < As.length + 2 → m i < (A :: As ++ [B]).length := by
    intro i hi; simp only [m]; split
    · simp
    · split <;> simp <;> omega
  have hmi : ∀ i j, i < As.length + 2 → j < As.length + 2 → i ≠ j → m i ≠ m j := by
    intro i j hi hj hij; simp only [m]; split <;> split <;> (try split) <;> (try split) <;> omega
  refine ⟨fun i => H (m i), fun i D hi => ?_, fun i j hi hj hij => al.dj _ _ (hm i (by simpa using hi)) (hm j (by simpa using hj)) (hmi i j (by simpa using hi) (by simpa using hj) hij), fun i hi => al.inn _ (hm i (by simpa using hi))⟩
  refine al.ok (m i) D ?_
  match i, hi with
  | 0, hi => simpa [m] using hi
  | 1, hi =>
    have : m 1 = As.length + 1 := rfl
    rw [this]
    simpa using hi
  | i + 2, hi =>
    have : m (i + 2) = i + 1 := rfl
    rw [this]
    have hl : i < As.length := by have := lt_of_get hi; simpa using this
    simp only [List.getElem?_cons_succ] at hi
    rw [List.getElem?_append_left (by simp; omega), List.getElem?_cons_succ]; exact hi
/-- one block more in the frame -/
def addF (g : Hl) (d : Nat) (o : Obj) : Hl := fun k => (g k).or (one d o k)
theorem Sat.frameIn {w : World} {As : List HP} {g : Hl} {d : Nat} {o : Obj} (h : Sat w (ex g :: As ++ [pts d o])) : g d = none ∧ Sat w (ex (addF g d o) :: As) := by
  have hn : g d = none := by
    obtain ⟨H, al⟩ := h
    have e0 : H 0 = g := al.ok 0 (ex g) rfl
    have e1 : H (As.length + 1) = one d o := al.ok (As.length + 1) (pts d o) (by simp)
    have := al.dj 0 (As.length + 1) (by simp) (by simp) (by omega) d
    rw [e0, e1, one_self] at this
    exact this.resolve_right (by simp)
  refine ⟨hn, ?_⟩
  have h1 := h.join 0 (As.length + 1) (A := ex g) (B := pts d o) rfl (by simp) (by omega)
  have h2 := h1.imp 0 (A := star (ex g) (pts d o)) (B := ex (addF g d o)) (by simp) (fun h' ⟨f1, f2, _, e, e1, e2⟩ => by
    funext k; rw [e k, show f1 = g from e1, show f2 = one d o from e2]; rfl)
  have e : ((((ex g :: As ++ [pts d o]).set 0 (star (ex g) (pts d o))).set (As.length + 1) emp).set 0 (ex (addF g d o))) = (ex (addF g d o) :: As) ++ [emp] := by
    simp
  rw [e] at h2
  exact h2.init
theorem Sat.frameOut {w : World} {As : List HP} {g : Hl} {d : Nat} {o : Obj} (hn : g d = none) (h : Sat w (ex (addF g d o) :: As)) : Sat w (ex g :: As ++ [pts d o]) := by
  have h1 := h.imp 0 (A := ex (addF g d o)) (B := star (ex g) (pts d o)) rfl (fun h' e => ⟨g, one d o, fun k => by
    by_cases q : k = d
    · subst q; exact .inl hn
    · exact .inr (by simp [one, q]), fun k => by rw [show h' = addF g d o from e]; rfl, rfl, rfl⟩)
  exact h1.split 0 rfl
/-- What follows the loop: its end, or the jump that a round has left. -/
def afterK (C : Cx) (Q : Exit → Act → World → Prop) : Option Code → Act → World → Prop
  | none => Q .normal
  | some c => Code.wpIn C.F 0 C.P c Q
theorem CW.rangeFunc {g : Operand} {ps : Array Tmp} {assign body : Code} {f : FuncId} {qs cs : Array Value} (hg : evo env g = some (.func (.func f) qs cs)) (hc : callable C.P f = true) (is : List Nat) {pre : List HP} (hok : okIdx is As.length = true) (hp : picks is As = pre)
    (hF : ∀ (l : Nat) (fn : FuncId), Fn C.P f (qs ++ #[.func (.yield l) #[] #[]] ++ cs) (loopA l C.N env fn ps assign body .ready none :: pre) (Ret fun _ Q' => ∃ (st : LoopState) (pd : Option Code) (Q'' : List HP), st ≠ .busy ∧ Q' = loopA l C.N env fn ps assign body st pd :: Q'' ∧
      ∀ d, KW C [markD d] (afterK C Q pd) env (putBack is (Q'' ++ [dfA d]) As)))
    (hds : ds = [] := by rfl) (hrd : C.rd = none := by rfl) : CW C ds Q (.rangeFunc g ps assign body) env As := by
  subst hp; subst hds
  intro a w ha hs hw
  have hFw : C.F = Fence.wide := by unfold Cx.F; rw [hrd]; rfl
  rw [hFw]
  refine wpIn_rangeFunc fun fn _ => ?_
  obtain ⟨hf, hs0, hback⟩ := hs.lend is hok
  let r : Loop := { state := .ready, pending := none, fn, tmps := a.tmps, params := ps, assign, body, defers := w.heap.size }
  let wd : World := { w with heap := w.heap.push (.deferred (some [])) }
  let w1 : World := { wd with heap := wd.heap.push (.loop r) }
  have hsd := hs0.push (w' := wd) (pushNew w _) (pushOld w _)
  have hsl := hsd.push (w' := w1) (pushNew wd _) (pushOld wd _)
  have hl1 : wd.heap.size = w.heap.size + 1 := by simp [wd]
  rw [hl1] at hsl
  have he : EnvOk C.N [] env { tmps := a.tmps, defers := [] } := ⟨ha.size, rfl, ha.slot⟩
  -- the record first, the block of deferred calls last
  have hs1 : Sat w1 (ex hf :: loopA (w.heap.size + 1) C.N env fn ps assign body .ready none :: picks is As ++ [dfA w.heap.size]) := by
    have h2 := hsl.imp (picks is As).length.succ.succ (A := pts (w.heap.size + 1) (.loop r)) (B := loopA (w.heap.size + 1) C.N env fn ps assign body .ready none) (by simp) (fun g hg => ⟨a.tmps, w.heap.size, he, hg⟩)
    have e : (ex hf :: picks is As ++ [pts w.heap.size (.deferred (some []))] ++ [pts (w.heap.size + 1) (.loop r)]).set (picks is As).length.succ.succ (loopA (w.heap.size + 1) C.N env fn ps assign body .ready none) = ex hf :: picks is As ++ [dfA w.heap.size] ++ [loopA (w.heap.size + 1) C.N env fn ps assign body .ready none] := by
      rw [List.set_append_right _ _ (by simp)]; simp [dfA]
    rw [e] at h2
    exact h2.rot (As := picks is As ++ [dfA w.heap.size])
  refine ⟨w.heap.size + 1, [markD w.heap.size], w1, { target := .fn (.func f) cs, args := qs ++ #[.func (.yield (w.heap.size + 1)) #[] #[]] }, w1, f, (qs ++ #[.func (.yield (w.heap.size + 1)) #[] #[]]) ++ cs, w1, run_enterLoop_outer _ _ _ _ _, ?_, fun _ _ => trivial, ?_, (fun h => by cases h), ?_⟩
  · simp only [resolve, ha.eval hg]; simp [Deferred.ofValue, Act.eval]
  · simp [invoke, callable_spec hc]
  · obtain ⟨hn, hs2⟩ := hs1.frameIn (As := loopA (w.heap.size + 1) C.N env fn ps assign body .ready none :: picks is As)
    have hcall := hF (w.heap.size + 1) fn w1 _ hs2
    refine (callsIn_wide (n := 0)).2 (hcall.mono fun e w' ⟨Q', hq, hs3, hsame⟩ => ?_)
    cases e with
    | returned v =>
      obtain ⟨st, pd, Q'', hst, rfl, hK⟩ := hq
      have hs4 := Sat.frameOut hn hs3
      obtain ⟨tmps, d, _, hb, hput⟩ := hs4.loopGet 1 rfl
      refine ⟨pd, _, run_endLoop hb hst, ?_⟩
      have hs5 := hput .exhausted pd
      simp only [List.cons_append, List.set_cons_succ, List.set_cons_zero] at hs5
      have hs6 := hback _ _ hs5.drop1
      have hk := hK w.heap.size { a with defers := [markD w.heap.size] ++ a.defers } _ ⟨ha.size, by rw [ha.defs]; rfl, ha.slot⟩ hs6 (hw.trans ⟨hsame.os, hsame.tape, hsame.output⟩)
      cases pd with
      | none => exact hk
      | some c => simp only [afterK, hFw] at hk; exact hk
    | panicked _ => exact hq.elim
    | outgrown => exact hq.elim

/-! ### A function that holds such a loop -/
theorem Fn.ofM {P : Program} {f : FuncId} {fn : Func} {c : Code} {N : Nat} {args : List Value} {pre : List HP} {post : Ending → List HP → Prop}
    (hf : P.funcs[f]? = some fn) (hb : fn.body = some c) (hN : fn.ntmps = N) (hn : Nat.ble args.length N = true)
    (h : ∀ (w : World) (g : Hl), CW ⟨P, w, N, none⟩ [] (bodyPostM Fence.wide 0 P fn (FnPost post w g)) c (argE args 0) (ex g :: pre)) : Fn P f args.toArray pre post := by
  intro w g hs
  have hle : args.length ≤ N := Nat.le_of_ble_eq_true hn
  refine (callsIn_wide (n := 0)).1 (callsIn_of_wp_marks hf hb trivial (h w g _ w ⟨?_, rfl, fun t v ht => ?_⟩ hs (Same.refl w)))
  · simp [hN]; omega
  · obtain ⟨_, h2⟩ := alook_argE args 0 t v ht
    have hl := lt_of_get h2
    simp only [Nat.sub_zero] at h2 hl
    rw [Array.getElem?_append_left (by simpa using hl)]
    simpa using h2
theorem KW.retM0 {fn : Func} {post : Ending → List HP → Prop} {g : Hl} {vs : List Value} {Q' : List HP} (hr : ResL C [] env As fn.results.toList vs) (is : List Nat)
    (hok : okIdx (0 :: is) As.length = true) (hp : picks (0 :: is) As = ex g :: Q') (hq : post (.returned (packV vs)) Q') {e : Exit} (he : e = .ret ∨ e = .normal := by first | exact .inl rfl | exact .inr rfl) : KW C [] (bodyPostM Fence.wide 0 C.P fn (FnPost post C.w0 g) e) env As := fun a w ha hs hw => by
  have key : LeavesInM Fence.wide 0 C.P fn a.tmps (FnPost post C.w0 g) a.defers .returning w := by
    rw [ha.defs]
    exact ⟨_, results_run hr ha hs, Q', hq, hp ▸ hs.picks _ hok, hw⟩
  rcases he with rfl | rfl <;> exact key
theorem KW.retM {fn : Func} {post : Ending → List HP → Prop} {g : Hl} {vs : List Value} {Q' As' : List HP} {d : Nat} (i : Nat) (hi : As[i]? = some (dfA d)) (hA : As.set i emp = As') (hr : ResL C [markD d] env As' fn.results.toList vs) (is : List Nat)
    (hok : okIdx (0 :: is) As'.length = true) (hp : picks (0 :: is) As' = ex g :: Q') (hq : post (.returned (packV vs)) Q') {e : Exit} (he : e = .ret ∨ e = .normal := by first | exact .inl rfl | exact .inr rfl) : KW C [markD d] (bodyPostM Fence.wide 0 C.P fn (FnPost post C.w0 g) e) env As := fun a w ha hs hw => by
  subst hA
  have hb := hs.get i hi
  have hli := lt_of_get hi
  have hlt : d < w.heap.size := (Array.getElem?_eq_some_iff.1 hb).1
  have hs1 := (hs.setHeap (w' := w.putObj d (.deferred none)) i hi (World.putObj_heap_same hlt) (fun k hk => World.putObj_heap_other hk)).imp i (B := emp) (by rw [List.getElem?_set_self hli]) (fun _ _ => trivial)
  rw [List.set_set] at hs1
  have key : LeavesInM Fence.wide 0 C.P fn a.tmps (FnPost post C.w0 g) a.defers .returning w := by
    rw [ha.defs]
    exact ⟨by simp, .inl ⟨d, _, rfl, run_takeDeferred hb, _, results_run hr ha hs1, Q', hq, hp ▸ hs1.picks _ hok, hw.trans (Same.putObj w d _)⟩⟩
  rcases he with rfl | rfl <;> exact key

/-! ### A region that draws its order and calls yield -/
def YW (C : Cx) (ds : List Deferred) (ops : Array Oper) (Q : Exit → Act → World → Prop) (fuel : Nat) (listed : Array Bool) (env : Env) (As : List HP) : Prop := KW C ds (wpAnyIn C.F 0 C.P .any ops Q fuel listed) env As
def YO (C : Cx) (ds : List Deferred) (ops : Array Oper) (Q : Exit → Act → World → Prop) (fuel : Nat) (listed : Array Bool) (i : Nat) (env : Env) (As : List HP) : Prop :=
  KW C ds (wpOpIn C.F 0 C.P ops Q i (wpAnyIn C.F 0 C.P .any ops Q fuel (listed.setIfInBounds i true))) env As
variable {o : Oper} {op : Op}
theorem CW.drawY {id : Nat} {l : List Oper} (hm : C.P.follows .mixedOrders = true) {n : Nat} (hn : l.length = n) {ls : Array Bool} (hls : Array.replicate n false = ls)
    (h : YW C ds l.toArray Q n ls env As) : CW C ds Q (.region id l.toArray true) env As := by
  subst hn; subst hls
  intro a w ha hs hw
  refine wpIn_region_any hm ?_
  rw [List.size_toArray]
  exact h a { w with drawn := w.drawn + 1 } ha (hs.keep fun _ _ => rfl) ⟨hw.os, hw.tape, hw.output⟩
theorem YW.done {fuel : Nat} {listed : Array Bool} (hr : Region.ready .any ops listed = []) (h : KW C ds (Q .normal) env As) : YW C ds ops Q fuel listed env As :=
  h.imp fun _ _ x => wpAnyIn_done hr x _
theorem YW.take {fuel : Nat} {listed l' : Array Bool} (i : Nat) {v : Value} (hi : ops[i]? = some ⟨some dt, op, ty, pos, af, gd⟩) (hns : Region.noSelect ops = true) (hf : Region.free .any ops listed i = true) (hr : (Region.ready .any ops listed).contains i = true)
    (hQ : ∀ c a w, Q (.panic c) (a.put (some dt) v) w → Q (.panic c) a w) (hv : OpV C ds env [] ⟨some dt, op, ty, pos, af, gd⟩ v) (hab : ∀ w ρ, (Oper.mk (some dt) op ty pos af gd).about C.P w ρ = none) (hg : wantedE ops env ⟨some dt, op, ty, pos, af, gd⟩ = some true) (hd : Nat.ble (dt + 1) C.N = true)
    (hl : listed.setIfInBounds i true = l') (h : YW C ds ops Q fuel l' ((dt, v) :: env) As) (hrd : C.rd = none := by rfl) : YW C ds ops Q (fuel + 1) listed env As := by
  subst hl
  intro a w ha hs hw
  have hs0 : ∀ w : World, Sat w [] := fun w => ⟨fun _ _ => none, fun i A h => by simp at h, fun i j h => by simp at h, fun i h => by simp at h⟩
  exact wpAnyIn_take hrd hi hns hf hr hQ ⟨.inl ⟨ha.wanted hg, fun w' => hv a w' ha (hs0 w')⟩, fun w' => hab w' _⟩ (h _ w (ha.put (d := some dt) hd v) hs hw)
theorem YW.all {fuel : Nat} {listed : Array Bool} (rs : List Nat) (hr : Region.ready .any ops listed = rs) (hne : rs ≠ []) (h : ∀ i ∈ rs, YO C ds ops Q fuel listed i env As) : YW C ds ops Q (fuel + 1) listed env As :=
  fun a w ha hs hw => wpAnyIn_all hr hne fun i hi => h i hi a w ha hs hw
theorem YW.all1 {fuel : Nat} {listed : Array Bool} (i : Nat) (hr : Region.ready .any ops listed = [i]) (h : YO C ds ops Q fuel listed i env As) : YW C ds ops Q (fuel + 1) listed env As :=
  YW.all [i] hr (by simp) (by simpa using h)
theorem YW.all2 {fuel : Nat} {listed : Array Bool} (i j : Nat) (hr : Region.ready .any ops listed = [i, j]) (h : YO C ds ops Q fuel listed i env As) (h' : YO C ds ops Q fuel listed j env As) : YW C ds ops Q (fuel + 1) listed env As :=
  YW.all [i, j] hr (by simp) (by simpa using ⟨h, h'⟩)
theorem YW.all3 {fuel : Nat} {listed : Array Bool} (i j k : Nat) (hr : Region.ready .any ops listed = [i, j, k]) (h : YO C ds ops Q fuel listed i env As) (h' : YO C ds ops Q fuel listed j env As) (h'' : YO C ds ops Q fuel listed k env As) : YW C ds ops Q (fuel + 1) listed env As :=
  YW.all [i, j, k] hr (by simp) (by simpa using ⟨h, h', h''⟩)
theorem YO.opR {fuel : Nat} {listed l' : Array Bool} {i : Nat} {R : Value → List HP → Prop} (hi : ops[i]? = some o) (hr : OpR C ds env As o R) (hg : wantedE ops env o = some true) (hd : dstOk C.N o.dst = true)
    (hl : listed.setIfInBounds i true = l') (h : ∀ v As', R v As' → YW C ds ops Q fuel l' (putE o.dst v env) As') : YO C ds ops Q fuel listed i env As := by
  subst hl
  intro a w ha hs hw
  obtain ⟨v, As', w', hR, hrun, hs', hsame⟩ := hr a w ha hs
  have hk := h v As' hR (a.put o.dst v) w' (ha.put hd v) hs' (hw.trans hsame)
  unfold wpOpIn
  simp only [hi]
  rw [if_pos (ha.wanted hg)]
  refine ⟨fun _ _ => trivial, ?_⟩
  rcases hrun with e | ⟨e, rfl⟩
  · rw [semAt_run e (fun _ => by simp)]; exact hk
  · rw [semAt_run e (fun _ => by simp)]; exact hk
theorem YO.opV {fuel : Nat} {listed l' : Array Bool} {i : Nat} {v : Value} (hi : ops[i]? = some ⟨some dt, op, ty, pos, af, gd⟩) (hv : OpV C ds env As ⟨some dt, op, ty, pos, af, gd⟩ v) (hg : wantedE ops env ⟨some dt, op, ty, pos, af, gd⟩ = some true) (hd : Nat.ble (dt + 1) C.N = true)
    (hl : listed.setIfInBounds i true = l') (h : YW C ds ops Q fuel l' ((dt, v) :: env) As) : YO C ds ops Q fuel listed i env As :=
  YO.opR (R := fun u B => u = v ∧ B = As) hi (fun a w ha hs => ⟨v, As, w, ⟨rfl, rfl⟩, .inl (hv a w ha hs), hs, Same.refl w⟩) hg hd hl (by rintro _ _ ⟨rfl, rfl⟩; exact h)
theorem YO.opU {fuel : Nat} {listed l' : Array Bool} {i : Nat} {v : Value} {As' : List HP} (hi : ops[i]? = some ⟨none, op, ty, pos, af, gd⟩) (hv : OpU C ds env As ⟨none, op, ty, pos, af, gd⟩ v As') (hg : wantedE ops env ⟨none, op, ty, pos, af, gd⟩ = some true)
    (hl : listed.setIfInBounds i true = l') (h : YW C ds ops Q fuel l' env As') : YO C ds ops Q fuel listed i env As :=
  YO.opR hi hv hg rfl hl (by rintro _ _ ⟨rfl, rfl⟩; exact h)
theorem YO.yield {fuel : Nat} {listed l' : Array Bool} {i : Nat} {l : Nat} {g : Operand} {args : Array Operand} {ats : Array TypeId} {vs : List Value} {post : Bool → List HP → Prop} (is : List Nat) (hi : ops[i]? = some ⟨some dt, .call ⟨.value g, args, ats⟩, ty, pos, af, gd⟩) (hgv : evo env g = some (.func (.yield l) #[] #[])) (hv : evs env args.toList = some vs)
    (hg : wantedE ops env ⟨some dt, .call ⟨.value g, args, ats⟩, ty, pos, af, gd⟩ = some true) (hd : Nat.ble (dt + 1) C.N = true) (hok : okIdx is As.length = true) {pre : List HP} (hp : picks is As = pre) (hY : Yd C.P l vs.toArray pre post)
    (hl : listed.setIfInBounds i true = l') (hn : ∀ b Q', post b Q' → YW C ds ops Q fuel l' ((dt, .bool b) :: env) (putBack is Q' As)) (hrd : C.rd = none := by rfl) : YO C ds ops Q fuel listed i env As := by
  subst hp; subst hl
  intro a w ha hs hw
  have h1 := evalsA ha hv
  obtain ⟨hf, hs', hback⟩ := hs.lend is hok
  obtain ⟨f, tmps, assign, body, hy, hround⟩ := hY w hf hs'
  have hrun : (execOp a.eval ⟨some dt, .call ⟨.value g, args, ats⟩, ty, pos, af, gd⟩).run C.P w = .ok (.round l f tmps assign body) w := by
    simp [execOp, resolve, h1, ha.eval hgv, Deferred.ofValue, invoke, hy]
  unfold wpOpIn
  simp only [hi]
  rw [if_pos (ha.wanted hg)]
  refine ⟨fun _ _ => trivial, ?_⟩
  rw [semAt_run hrun (fun _ => by simp), Oper.uponIn_round]
  refine ⟨C.depth, ?_⟩
  have hF : C.F = Fence.wide := by unfold Cx.F; rw [hrd]; rfl
  rw [hF]
  refine hround.mono fun e w' ⟨b, Q', e1, hpost, hs2, hsame⟩ => ?_
  subst e1
  have h2 := hn b Q' hpost (a.put (some dt) (.bool b)) w' (ha.put (d := some dt) hd (.bool b)) (hback w' Q' hs2) (hw.trans hsame)
  rw [hF] at h2; exact h2

/-- string(b[..]): the bytes lie in a row -/
theorem ov_b2sR {t t' e : TypeId} {x : Operand} {b off c n : Nat} {l : List UInt8} {tb : TypeId} {cs : List Value} {d : Option Tmp} (i : Nat) (hu : sliceOf C.P t = some (e, 1, 1)) (hs' : C.P.underlying t' = some .string) (he : C.P.underlying e = some (.int .u8)) (hx : evo env x = some (.slice (some ⟨b, off, none⟩) n c)) (hn : n = l.length) (hi : As[i]? = some (row b tb cs))
    (hl : ∀ (j : Nat) (v : Value), (l.map bv)[j]? = some v → cs[off + j]? = some v) : OpV C ds env As ⟨d, .convert t t' x, ty, pos, af, gd⟩ (S l) := fun a w ha hs => by
  subst hn
  obtain ⟨h1, q, h2, h3, h4⟩ := sliceOf_spec hu
  have hb : (Conv.bytesToString (.slice (some ⟨b, off, none⟩) l.length c)).run C.P w = .ok (S l) w := by
    have hld := run_loadCells_list (P := C.P) (w := w) ⟨b, off, none⟩ (l.map bv) (fun j v hj => by
      rw [addr_add, hs.cell i hi]; exact hl j v hj)
    rw [List.length_map] at hld
    have hns : (l.map bv).toArray = ((l.map fun c => (c.toNat : Int)).map (Value.int .u8)).toArray := by simp [bv]
    rw [hns] at hld
    rw [run_bytesToString w _ _ _ _ hld]
    have key : ∀ (l : List UInt8) (s : ByteArray), (l.map fun c => (c.toNat : Int)).foldl (fun (r : ByteArray) n => r.push (UInt8.ofNat n.toNat)) s = ⟨(s.data.toList ++ l).toArray⟩ := by
      intro l; induction l with
      | nil => intro s; simp
      | cons c r ih => intro s; simp only [List.map_cons, List.foldl_cons]; rw [ih]; simp [ByteArray.push]
    rw [key]; rfl
  simp only [execOp, ha.eval hx, convert, Sem.run_bind, run_underlying h1, run_underlying hs', run_underlying he, Result.andThen_ok, hb, Sem.run_pure]
end
end Sx
end Go.Proofs.Ytdgphamhpjnmpaa

/- Arrays. -/
namespace Go.Proofs.Ytdgphamhpjnmpaa
namespace Sx
theorem wr_whole (ys cs : List Value) (h : ys.length = cs.length) : wr cs 0 ys = ys := by
  obtain ⟨p, hp⟩ := wr_app ys [] cs (by omega)
  simp only [List.nil_append, List.length_nil] at hp
  have := congrArg List.length hp
  rw [wr_length, List.length_append] at this
  have h0 : p = [] := List.eq_nil_of_length_eq_zero (by omega)
  rw [hp, h0]; simp
theorem Tk.whole : ∀ (cs : List Value) (n : Nat), cs.length = n → Tk cs 0 n cs := by
  intro cs; induction cs with
  | nil => intro n h; subst h; exact .n
  | cons c cs ih => intro n h; subst h; exact .h (ih _ rfl)
theorem Fn.ret {P : Program} {f : FuncId} {args : Array Value} {pre : List HP} {post post' : Value → List HP → Prop} (h : Fn P f args pre (Ret post)) (hp : ∀ v Q, post v Q → post' v Q) : Fn P f args pre (Ret post') :=
  h.mono fun e Q hq => by
    cases e with
    | returned v => exact hp v Q hq
    | panicked _ => exact hq
    | outgrown => exact hq
theorem wr_one : ∀ (cs : List Value) (off : Nat) (v : Value), wr cs off [v] = cs.set off v := by
  intro cs off v; rfl
theorem wrap_nat {n : Nat} (h : n < 2 ^ 63) : IntKind.i64.wrap (n : Int) = n := wrap_i64 (by omega)
theorem bits_mask (x : Int) (k : Nat) (hk : k < 63) : bits2 .and .i64 x (2 ^ k - 1 : Nat) = x % (2 ^ k : Nat) := by
  have h2 : (2 : Nat) ^ k < 2 ^ 63 := Nat.pow_lt_pow_right (by omega) hk
  have hp : 0 < (2 : Nat) ^ k := Nat.pos_of_ne_zero (by simp)
  have e1 : (BitVec.ofInt 64 x &&& BitVec.ofInt 64 ((2 ^ k - 1 : Nat) : Int)).toNat = (x % (2 ^ 64 : Nat)).toNat % 2 ^ k := by
    rw [BitVec.toNat_and, BitVec.toNat_ofInt, BitVec.toNat_ofInt]
    have : (((2 ^ k - 1 : Nat) : Int) % (2 ^ 64 : Nat)).toNat = 2 ^ k - 1 := by
      rw [Int.emod_eq_of_lt (by omega) (by have : (2:Nat)^63 < 2^64 := by decide
                                           omega)]; rfl
    rw [this, Nat.and_two_pow_sub_one_eq_mod]
  show IntKind.i64.wrap ((BitVec.ofInt 64 x &&& BitVec.ofInt 64 ((2 ^ k - 1 : Nat) : Int)).toNat : Int) = _
  rw [e1, wrap_nat (Nat.lt_trans (Nat.mod_lt _ hp) h2)]
  have h3 : (0 : Int) ≤ x % (2 ^ 64 : Nat) := Int.emod_nonneg _ (by decide)
  rw [Int.natCast_emod, Int.toNat_of_nonneg h3]
  exact Int.emod_emod_of_dvd x (by exact_mod_cast Nat.pow_dvd_pow 2 (by omega))
section
variable {C : Cx} {ds : List Deferred} {env : Env} {As : List HP} {d : Option Tmp} {ty : TypeId} {pos : String} {af : Array Edge} {gd : Option (Nat × Bool)} {t t' e : TypeId} {x y : Operand} {k : IntKind} {m : Int}
/-- the address of an array's element -/
theorem ov_idxA {g : Bool} {n sz b off i : Nat} (hu : C.P.underlying t = some (.array n e)) (he : tyAgg C.P e = some (g, sz)) (hx : evo env x = some (.pointer (some ⟨b, off, none⟩))) (hy : evo env y = some (.int k m)) (hm : m = (i : Int)) (hi : i < n) :
    OpV C ds env As ⟨d, .indexAddr t x y, ty, pos, af, gd⟩ (.pointer (some ⟨b, off + i * sz, none⟩)) := fun a w ha _ => by
  subst hm
  have hs := (tyAgg_spec he w).2
  simp [execOp, ha.eval hx, ha.eval hy, Instr.indexAt, asIntOf, run_underlying hu, Instr.sureAddr, hs, addr_add, hi]
/-- an element of an array of one-cell elements -/
theorem ov_arrIdx {n i : Nat} {cs : Array Value} {v : Value} (hu : C.P.underlying t = some (.array n e)) (he : tyAgg C.P e = some (false, 1)) (hx : evo env x = some (.agg cs)) (hy : evo env y = some (.int k m)) (hm : m = (i : Int)) (hi : i < n) (hv : cs[i]? = some v) :
    OpV C ds env As ⟨d, .index t x y, ty, pos, af, gd⟩ v := fun a w ha _ => by
  subst hm
  have hs := (tyAgg_spec he w).2
  have hp := run_part1 (P := C.P) (w := w) (o := i * 1) he (by rw [Nat.mul_one]; exact hv)
  simp only [Nat.mul_one] at hp
  simp [execOp, ha.eval hx, ha.eval hy, Instr.index, asIntOf, run_underlying hu, hs, hi, hp]
theorem ou_storeAll {b : Nat} {vs : List Value} {v : Value} {g : Bool} {tb : TypeId} {cs : List Value} {n : Nat} {As' : List HP} (ha : tyAgg C.P t = some (g, n)) (hx : evo env x = some (.pointer (some ⟨b, 0, none⟩))) (hy : evo env y = some v)
    (hv : v.cells.toList = vs) (hn : vs.length = n) (hone : (vs.all fun u => u.oneCell') = true) (hc : cs.length = n) (hi : Rep As (row b tb cs) (row b tb vs) As') : OpU C ds env As ⟨d, .store t x y, ty, pos, af, gd⟩ undef As' := by
  obtain ⟨i, h1, h2⟩ := hi.spec
  subst h2
  have := ou_storeL (C := C) (ds := ds) (env := env) (d := d) (ty := ty) (pos := pos) (af := af) (gd := gd) i ha hx hy hv hn (by simpa using hone) h1 (by omega)
  rwa [wr_whole vs cs (by omega)] at this
theorem ou_storeAt {b off : Nat} {v : Value} {tb : TypeId} {cs : List Value} {As' : List HP} (ha : tyAgg C.P t = some (false, 1)) (hx : evo env x = some (.pointer (some ⟨b, off, none⟩))) (hy : evo env y = some v)
    (hone : v.oneCell' = true) (hc : off < cs.length) (hi : Rep As (row b tb cs) (row b tb (cs.set off v)) As') : OpU C ds env As ⟨d, .store t x y, ty, pos, af, gd⟩ undef As' := by
  obtain ⟨i, h1, h2⟩ := hi.spec
  subst h2
  exact ou_storeL (vs := [v]) i ha hx hy (CellsOf.one hone).spec rfl (by simpa using hone) h1 (by omega)
theorem fill_fun {n sz : Nat} : ∀ (l : List (Nat × Value)) (cells r : Array Value), Instr.fill (((List.range n).map fun i => (i * sz, sz)).toArray[·]?) cells l = some r → Instr.fill (fun i => some (i * sz, sz)) cells l = some r := by
  have hpl : ∀ i x, ((List.range n).map fun i => (i * sz, sz)).toArray[i]? = some x → some (i * sz, sz) = some x := by
    intro i x h
    simp only [List.getElem?_toArray, List.getElem?_map] at h
    cases e : (List.range n)[i]? with
    | none => rw [e] at h; cases h
    | some j =>
      have := List.getElem?_range (lt_of_get e |> fun h => by simpa using h)
      rw [this] at e; simp at e; subst e
      rw [this] at h; simpa using h
  intro l; induction l with
  | nil => intro cells r h; exact h
  | cons p l ih =>
    intro cells r h
    obtain ⟨i, v⟩ := p
    simp only [Instr.fill] at h ⊢
    cases e : ((List.range n).map fun i => (i * sz, sz)).toArray[i]? with
    | none => rw [e] at h; cases h
    | some x =>
      have := hpl i x e
      simp only [Option.some.injEq] at this; subst this
      rw [e] at h
      simp only at h
      split at h
      · cases h
      · rename_i hc; rw [if_neg hc]; exact ih _ _ h
/-- an array literal -/
theorem ov_buildA {parts : Array (Nat × Operand)} {ps : List (Nat × Value)} {n sz : Nat} {g : Bool} {zs cs : List Value} (hu : C.P.underlying t = some (.array n e)) (he : tyAgg C.P e = some (g, sz)) (hz : zeroCells' C.P t = some zs) (hp : evps env parts.toList = some ps)
    (hb : Bl ((List.range n).map fun i => (i * sz, sz)) zs ps cs) : OpV C ds env As ⟨d, .build t parts, ty, pos, af, gd⟩ (.agg cs.toArray) := fun a w ha _ => by
  obtain ⟨z, hz', hzc⟩ := zeroCells_spec hz
  have hparts : (parts.map fun (i, x) => (i, a.eval x)).toList = ps := by rw [← ha.evalps hp]; simp
  have hzz : z.cells = zs.toArray := by rw [← hzc]
  have h3 := fill_fun _ _ _ (fill_bl hb)
  simp only [execOp, Instr.build, Sem.run_bind, zeroOf_spec hz', Result.andThen_ok, run_underlying hu, (tyAgg_spec he w).2, hparts, hzz, h3]
  rfl
/-! parts of strings -/
theorem ov_ssLo {a : List UInt8} {lo : Operand} (hu : C.P.underlying t = some .string) (hx : evo env x = some (S a)) (hl : evo env lo = some (.int k m)) (h0 : 0 ≤ m ∧ m ≤ a.length) : OpV C ds env As ⟨d, .slice t x (some lo) none none, ty, pos, af, gd⟩ (S (a.drop m.toNat)) := by
  have h := ov_strSlice (C := C) (ds := ds) (As := As) (d := d) (ty := ty) (pos := pos) (af := af) (gd := gd) (lo := some lo) (hi := none) (i := m.toNat) (j := a.length) hu hx ⟨_, _, hl, by omega⟩ rfl (by omega) (Nat.le_refl _)
  rwa [List.take_of_length_le (by simp)] at h
theorem ov_ssHi {a : List UInt8} {hi : Operand} (hu : C.P.underlying t = some .string) (hx : evo env x = some (S a)) (hl : evo env hi = some (.int k m)) (h0 : 0 ≤ m ∧ m ≤ a.length) : OpV C ds env As ⟨d, .slice t x none (some hi) none, ty, pos, af, gd⟩ (S (a.take m.toNat)) :=
  ov_strSlice (C := C) (ds := ds) (As := As) (d := d) (ty := ty) (pos := pos) (af := af) (gd := gd) (lo := none) (hi := some hi) (i := 0) (j := m.toNat) hu hx rfl ⟨_, _, hl, by omega⟩ (by omega) (by omega)
theorem ov_ssLH {a : List UInt8} {lo hi : Operand} {k' : IntKind} {m' : Int} (hu : C.P.underlying t = some .string) (hx : evo env x = some (S a)) (hl : evo env lo = some (.int k m)) (hl' : evo env hi = some (.int k' m')) (h0 : 0 ≤ m ∧ m ≤ m' ∧ m' ≤ a.length) :
    OpV C ds env As ⟨d, .slice t x (some lo) (some hi) none, ty, pos, af, gd⟩ (S ((a.drop m.toNat).take (m' - m).toNat)) := by
  have h := ov_strSlice (C := C) (ds := ds) (As := As) (d := d) (ty := ty) (pos := pos) (af := af) (gd := gd) (lo := some lo) (hi := some hi) (i := m.toNat) (j := m'.toNat) hu hx ⟨_, _, hl, by omega⟩ ⟨_, _, hl', by omega⟩ (by omega) (by omega)
  rwa [show m'.toNat - m.toNat = (m' - m).toNat by omega] at h
/-! shifts by constants, masks, conversions -/
theorem ov_shlC {k' : IntKind} {n c : Int} (hx : evo env x = some (.int .i64 m)) (hy : evo env y = some (.int k' n)) (hn : 0 ≤ n) (hc : (2 : Int) ^ (min n.toNat IntKind.i64.bits) = c) (hb : -9223372036854775808 ≤ m * c ∧ m * c ≤ 9223372036854775807) :
    OpV C ds env As ⟨d, .binOp .shl t x y t', ty, pos, af, gd⟩ (.int .i64 (m * c)) := by
  have h := ov_shl (C := C) (ds := ds) (As := As) (d := d) (ty := ty) (pos := pos) (af := af) (gd := gd) (t := t) (t' := t') hx hy hn
  rw [hc, wrap_i64 hb] at h; exact h
theorem ov_shrC {k' : IntKind} {n c : Int} (hx : evo env x = some (.int k m)) (hy : evo env y = some (.int k' n)) (hn : 0 ≤ n) (hc : (2 : Int) ^ (min n.toNat k.bits) = c) (hp : 0 ≤ c) :
    OpV C ds env As ⟨d, .binOp .shr t x y t', ty, pos, af, gd⟩ (.int k (m / c)) := by
  have h := ov_shr (C := C) (ds := ds) (As := As) (d := d) (ty := ty) (pos := pos) (af := af) (gd := gd) (t := t) (t' := t') hx hy hn
  rw [hc, Int.fdiv_eq_ediv_of_nonneg _ hp] at h; exact h
theorem ov_toI64 (hu : C.P.underlying t' = some (.int .i64)) (ht : (C.P.underlying t).isSome = true) (hx : evo env x = some (.int k m)) (hb : -9223372036854775808 ≤ m ∧ m ≤ 9223372036854775807) : OpV C ds env As ⟨d, .convert t t' x, ty, pos, af, gd⟩ (.int .i64 m) := by
  have h := ov_toInt (C := C) (ds := ds) (As := As) (d := d) (ty := ty) (pos := pos) (af := af) (gd := gd) hu ht hx
  rw [wrap_i64 hb] at h; exact h
theorem ov_toU {k' : IntKind} {c : Int} (hu : C.P.underlying t' = some (.int k')) (ht : (C.P.underlying t).isSome = true) (hx : evo env x = some (.int k m)) (hk : ∀ m, k'.wrap m = m % c) : OpV C ds env As ⟨d, .convert t t' x, ty, pos, af, gd⟩ (.int k' (m % c)) := by
  have h := ov_toInt (C := C) (ds := ds) (As := As) (d := d) (ty := ty) (pos := pos) (af := af) (gd := gd) hu ht hx
  rw [hk] at h; exact h
theorem wrap_u8 (m : Int) : IntKind.u8.wrap m = m % 256 := rfl
theorem wrap_u16 (m : Int) : IntKind.u16.wrap m = m % 65536 := rfl
theorem wrap_u32 (m : Int) : IntKind.u32.wrap m = m % 4294967296 := rfl
theorem wrap_u64 (m : Int) : IntKind.u64.wrap m = m % 18446744073709551616 := rfl
theorem ov_maskC {n c : Int} (j : Nat) (hx : evo env x = some (.int .i64 m)) (hy : evo env y = some (.int .i64 n)) (hn : n = (2 ^ j - 1 : Nat)) (hj : j < 63) (hc : ((2 ^ j : Nat) : Int) = c) :
    OpV C ds env As ⟨d, .binOp .and t x y t', ty, pos, af, gd⟩ (.int .i64 (m % c)) := by
  subst hn; subst hc
  have h := ov_and (C := C) (ds := ds) (As := As) (d := d) (ty := ty) (pos := pos) (af := af) (gd := gd) (t := t) (t' := t') hx hy
  rw [bits_mask m j hj] at h; exact h
end
end Sx
end Go.Proofs.Ytdgphamhpjnmpaa

/- crc: the table, the sum by it. -/
namespace Go.Proofs.Ytdgphamhpjnmpaa
namespace Sx

theorem stN_snoc : ∀ (n : Nat) (x : BitVec 16), stN (n + 1) x = st16 (stN n x) := by
  intro n; induction n with
  | zero => intro x; rfl
  | succ n ih => intro x; show stN (n + 1) (st16 x) = _; rw [ih]; rfl
theorem w16_top (r : BitVec 16) : IntKind.u16.wrap (((r >>> 15).toNat : Int) * 4129) = ((if r.msb then 0x1021#16 else 0#16).toNat : Int) := by
  rw [u16_wrap, BitVec.toNat_ushiftRight, BitVec.msb_eq_decide, Nat.shiftRight_eq_div_pow]
  have := r.isLt
  by_cases q : 2 ^ 15 ≤ r.toNat
  · have : r.toNat / 2 ^ 15 = 1 := by omega
    simp [q, this]
  · have : r.toNat / 2 ^ 15 = 0 := by omega
    simp [q, this]
def Tab (n : Nat) (cs : List Value) : Prop := cs.length = 256 ∧ ∀ i, i < n → cs[i]? = some (w16 (tab16 (BitVec.ofNat 16 i)))
theorem Tab.one {cs : List Value} (h : Tab 256 cs) : (cs.all fun u => u.oneCell') = true := by
  rw [List.all_eq_true]
  intro u hu
  obtain ⟨i, hi, rfl⟩ := List.mem_iff_getElem.1 hu
  have h1 := h.2 i (by rw [← h.1]; exact hi)
  rw [List.getElem?_eq_getElem hi] at h1
  simp only [Option.some.injEq] at h1
  rw [h1]; rfl
theorem zc256 : zeroCells' Try.prog 186 = some (List.replicate 256 (Value.int .u16 0)) := by kernel_rfl
theorem Tab.set {n : Nat} {cs : List Value} (h : Tab n cs) (hn : n < 256) : Tab (n + 1) (cs.set n (w16 (tab16 (BitVec.ofNat 16 n)))) := by
  refine ⟨by rw [List.length_set]; exact h.1, fun i hi => ?_⟩
  by_cases e : i = n
  · subst e; rw [List.getElem?_set_self (by have := h.1; omega)]
  · rw [List.getElem?_set_ne (Ne.symm e)]; exact h.2 i (by omega)
theorem bytes16_ok : Fn Try.prog 102 #[] [] (Ret fun v Q => ∃ cs, v = .agg cs.toArray ∧ Tab 256 cs ∧ Q = []) := by
  obtain ⟨z, hz⟩ : ∃ z, z = List.replicate 256 (Value.int .u16 0) := ⟨_, rfl⟩
  have hzc : zeroCells' Try.prog 186 = some z := hz ▸ zc256
  have hzl : z.length = 256 := by rw [hz, List.length_replicate]
  refine Fn.of (args := _) Try.func102 rfl Try.ntmps102 rfl ?_
  intro w0 g0
  refine CW.seq ?_
  refine CW.region ?_
  refine LW.opBA (ob_alloc hzc (fun _ => (.c (.n)))) rfl rfl (fun b0 => ?_)
  refine LW.nil ?_
  refine KW.thenN ?_
  refine CW.seq ?_
  refine CW.region ?_
  refine LW.opBA (ob_alloc hzc (fun _ => (.c (.c (.n))))) rfl rfl (fun b1 => ?_)
  refine LW.nil ?_
  refine KW.thenN ?_
  refine CW.seq ?_
  refine CW.seq ?_
  refine CW.region ?_
  refine LW.v (ov_move rfl) ?_
  refine LW.nil ?_
  refine KW.thenN ?_
  refine CW.block ?_
  refine CW.loopW (fun n env As => ∃ (k : Nat) (cs : List Value), k + n = 256 ∧ Tab k cs ∧ env = [(0, P1 b0 0), (1, P1 b1 0), (5, .int .i64 k)] ∧ As = [ex g0, row b0 186 z, row b1 186 cs]) 256 [0, 1, 2] ⟨0, z, rfl, ⟨hzl, fun i hi => by omega⟩, rfl, rfl⟩ ⟨rfl, rfl, rfl, trivial⟩ rfl rfl ?_
  rintro n _ _ ⟨k, cs, hkn, htab, rfl, rfl⟩
  refine CW.seq ?_
  refine CW.region ?_
  refine LW.v (ov_lss rfl rfl) ?_
  refine LW.nil ?_
  refine KW.thenN ?_
  refine CW.seq ?_
  refine CW.condD (by rfl) (fun h => ?_) (fun h => ?_)
  · have hk : k < 256 := by omega
    have e9 : IntKind.u16.wrap (k : Int) = ((BitVec.ofNat 16 k).toNat : Int) := by rw [u16_wrap, BitVec.toNat_ofNat]; omega
    refine CW.skip ?_
    refine KW.thenN ?_
    refine CW.seq ?_
    refine CW.block ?_
    refine CW.seq ?_
    refine CW.region ?_
    refine LW.v (ov_move rfl) ?_
    refine LW.v (ov_assign rfl) ?_
    refine LW.nil ?_
    refine KW.thenN ?_
    refine CW.seq ?_
    refine CW.region ?_
    refine LW.v (ov_move rfl) ?_
    refine LW.v (OpV.eq (ov_toInt un125 us3 rfl) (congrArg (Value.int .u16) e9)) ?_
    refine LW.v (OpV.eq (ov_shl rfl rfl (by decide)) (congrArg (Value.int .u16) (w16_shl (BitVec.ofNat 16 k) 8 (by decide)))) ?_
    refine LW.v (ov_assign rfl) ?_
    refine LW.nil ?_
    refine KW.thenN ?_
    refine CW.seq ?_
    refine CW.seq ?_
    refine CW.region ?_
    refine LW.v (ov_move rfl) ?_
    refine LW.nil ?_
    refine KW.thenN ?_
    refine CW.block ?_
    refine CW.loopW (fun n2 env As => ∃ (j : Nat), j + n2 = 8 ∧ env = [(0, P1 b0 0), (1, P1 b1 0), (5, .int .i64 k), (2, .int .i64 k), (3, w16 (stN j (BitVec.ofNat 16 k <<< 8))), (11, .int .i64 j)] ∧ As = [ex g0, row b0 186 z, row b1 186 cs]) 8 [0, 1, 2] ⟨0, rfl, rfl, rfl⟩ ⟨rfl, rfl, rfl, rfl, rfl, rfl, trivial⟩ rfl rfl ?_
    rintro n2 _ _ ⟨j, hj, rfl, rfl⟩
    refine CW.seq ?_
    refine CW.region ?_
    refine LW.v (ov_lss rfl rfl) ?_
    refine LW.nil ?_
    refine KW.thenN ?_
    refine CW.seq ?_
    refine CW.condD (by rfl) (fun h2 => ?_) (fun h2 => ?_)
    · generalize hr : stN j (BitVec.ofNat 16 k <<< 8) = r
      refine CW.skip ?_
      refine KW.thenN ?_
      refine CW.seq ?_
      refine CW.block ?_
      refine CW.seq ?_
      refine CW.region ?_
      refine LW.v (ov_move rfl) ?_
      refine LW.v (OpV.eq (ov_shr rfl rfl (by decide)) (congrArg (Value.int .u16) (w16_shr r 15))) ?_
      refine LW.v (ov_assign rfl) ?_
      refine LW.nil ?_
      refine KW.thenN ?_
      refine CW.region ?_
      refine LW.v (ov_move rfl) ?_
      refine LW.v (OpV.eq (ov_shl rfl rfl (by decide)) (congrArg (Value.int .u16) (w16_shl r 1 (by decide)))) ?_
      refine LW.v (ov_move rfl) ?_
      refine LW.v (OpV.eq (ov_mulW rfl rfl) (congrArg (Value.int .u16) (w16_top r))) ?_
      refine LW.v (ov_bits (.inr (.inr (.inl rfl))) rfl rfl (w16_xor (r <<< 1) (if r.msb then 0x1021#16 else 0#16))) ?_
      refine LW.v (ov_assign rfl) ?_
      refine LW.nil ?_
      refine KW.blockN ?_
      refine KW.thenN ?_
      refine CW.region ?_
      first | refine LW.v (ov_add rfl rfl (by omega)) ?_ | refine LW.v (ov_addW rfl rfl) ?_
      refine LW.v (ov_move rfl) ?_
      refine LW.nil ?_
      exact KW.again (n2 - 1) [0, 1, 2] (by omega) ⟨j + 1, by omega, rfl, rfl⟩ ⟨rfl, rfl, rfl, rfl, by rw [stN_snoc, hr]; rfl, rfl, trivial⟩ rfl rfl
    · obtain rfl : j = 8 := by omega
      have hl := htab.1
      refine CW.exit ?_
      refine KW.thenX ?_
      refine KW.thenX ?_
      refine KW.hit ?_
      refine KW.thenN ?_
      refine CW.region ?_
      refine LW.v (ov_move rfl) ?_
      refine LW.v (ov_move rfl) ?_
      refine LW.v (ov_idxA (i := k) ar186 ta125 rfl rfl rfl (by omega)) ?_
      refine LW.opU (ou_storeAt ta125 rfl rfl rfl (by omega) (.t (.t (.h)))) rfl ?_
      refine LW.nil ?_
      refine KW.blockN ?_
      refine KW.thenN ?_
      refine CW.region ?_
      first | refine LW.v (ov_add rfl rfl (by omega)) ?_ | refine LW.v (ov_addW rfl rfl) ?_
      refine LW.v (ov_move rfl) ?_
      refine LW.nil ?_
      exact KW.again (n - 1) [0, 1, 2] (by omega) ⟨k + 1, _, by omega, by rw [Nat.zero_add, Nat.mul_one]; exact htab.set hk, rfl, rfl⟩ ⟨rfl, rfl, rfl, trivial⟩ rfl rfl
  · obtain rfl : k = 256 := by omega
    have hl := htab.1
    refine CW.exit ?_
    refine KW.thenX ?_
    refine KW.thenX ?_
    refine KW.hit ?_
    refine KW.thenN ?_
    refine CW.seq ?_
    refine CW.region ?_
    refine LW.v (ov_loadAR 2 ta186 rfl rfl (Tk.whole _ _ hl)) ?_
    refine LW.opU (ou_storeAll ta186 rfl rfl rfl hl htab.one hzl (.t (.h))) rfl ?_
    refine LW.nil ?_
    refine KW.thenN ?_
    refine CW.ret ?_
    exact KW.retF (.cons (ResV.cellA 1 ta186 rfl rfl (Tk.whole _ _ hl)) .nil) [] rfl rfl ⟨cs, rfl, htab, rfl⟩
end Sx
end Go.Proofs.Ytdgphamhpjnmpaa

/- crc: the sums. -/
namespace Go.Proofs.Ytdgphamhpjnmpaa
namespace Sx

theorem tabIdx (r : BitVec 16) (c : UInt8) : bits2 .xor .u8 (((r >>> 8).toNat : Int) % 256) c.toNat = (((r >>> 8) ^^^ cb c).toNat : Int) := by
  have h1 : (r >>> 8).toNat < 256 := by
    rw [BitVec.toNat_ushiftRight, Nat.shiftRight_eq_div_pow]; have := r.isLt; omega
  have hc := c.toNat_lt
  have hx : (r >>> 8).toNat ^^^ c.toNat < 256 := Nat.xor_lt_two_pow (n := 8) h1 hc
  have e1 : (((r >>> 8).toNat : Int) % (256 : Int)) = ((r >>> 8).toNat : Int) := by omega
  have e : (BitVec.ofInt 8 ((r >>> 8).toNat : Int) ^^^ BitVec.ofInt 8 (c.toNat : Int)).toNat = (r >>> 8).toNat ^^^ c.toNat := by
    rw [BitVec.toNat_xor, BitVec.ofInt_natCast, BitVec.ofInt_natCast, BitVec.toNat_ofNat, BitVec.toNat_ofNat, Nat.mod_eq_of_lt h1, Nat.mod_eq_of_lt hc]
  show IntKind.u8.wrap ((BitVec.ofInt 8 (((r >>> 8).toNat : Int) % 256) ^^^ BitVec.ofInt 8 (c.toNat : Int)).toNat : Int) = _
  rw [e1, e, wrap_u8, BitVec.toNat_xor, cb, BitVec.toNat_ofNat, Nat.mod_eq_of_lt (a := c.toNat) (by omega)]
  omega
theorem Next16_ok (r : BitVec 16) {l : List UInt8} (hl : l.length ≤ 1000000000) : Fn Try.prog 89 #[w16 r, S l] [] (Ret fun v Q => v = w16 (nextR r l) ∧ Q = []) := by
  refine Fn.of (args := _) Try.func89 rfl Try.ntmps89 rfl ?_
  intro w0 g0
  refine CW.seq ?_
  refine CW.region ?_
  refine LW.v (ov_assign rfl) ?_
  refine LW.nil ?_
  refine KW.thenN ?_
  refine CW.seq ?_
  refine CW.region ?_
  refine LW.call [] (oc_fn cf102 rfl) rfl rfl rfl rfl (bytes16_ok) ?_
  rintro _ _ ⟨cs, rfl, htab, rfl⟩
  simp only [putBack, List.append_nil]
  refine LW.opBA (ob_alloc zc256 (fun _ => (.c (.n)))) rfl rfl (fun b5 => ?_)
  refine LW.opU (ou_storeAll ta186 rfl rfl rfl htab.1 htab.one (List.length_replicate ..) (.t (.h))) rfl ?_
  refine LW.nil ?_
  refine KW.thenN ?_
  refine CW.seq ?_
  refine CW.seq ?_
  refine CW.region ?_
  refine LW.v (ov_move rfl) ?_
  refine LW.v (ov_lenS un9 rfl) ?_
  refine LW.v (ov_move rfl) ?_
  refine LW.nil ?_
  refine KW.thenN ?_
  refine CW.block ?_
  refine CW.loopW (fun n env As => ∃ (k : Nat) (r' : BitVec 16), k + n = l.length ∧ nextT r' (l.drop k) = nextT r l ∧ env = [(0, w16 r'), (1, S l), (5, P1 b5 0), (9, .int .i64 l.length), (10, .int .i64 k)] ∧ As = [ex g0, row b5 186 cs]) l.length [0, 1] ⟨0, r, by simp, rfl, rfl, rfl⟩ ⟨rfl, rfl, rfl, rfl, rfl, trivial⟩ rfl rfl ?_
  rintro n _ _ ⟨k, r', hkn, hnx, rfl, rfl⟩
  refine CW.seq ?_
  refine CW.region ?_
  refine LW.v (ov_lss rfl rfl) ?_
  refine LW.nil ?_
  refine KW.thenN ?_
  refine CW.seq ?_
  refine CW.condD (by rfl) (fun h => ?_) (fun h => ?_)
  · have hk : k < l.length := by omega
    have hc : l[k]? = some l[k] := List.getElem?_eq_getElem hk
    rw [List.drop_eq_getElem_cons hk] at hnx
    generalize l[k] = c at hc hnx
    change nextT (r' <<< 8 ^^^ tab16 ((r' >>> 8) ^^^ cb c)) (l.drop (k + 1)) = _ at hnx
    generalize hi : (r' >>> 8) ^^^ cb c = i at hnx
    have hil : i.toNat < 256 := by
      have h1 := tabIdx r' c
      rw [hi] at h1
      have h2 : bits2 .xor .u8 (((r' >>> 8).toNat : Int) % 256) c.toNat < 256 := by
        show IntKind.u8.wrap _ < 256
        rw [wrap_u8]; omega
      omega
    have hcs : cs[i.toNat]? = some (w16 (tab16 i)) := by
      rw [htab.2 _ hil, BitVec.ofNat_toNat]; simp
    have e8 : IntKind.u16.wrap ((r'.toNat : Int) * 2 ^ (min (8 : Int).toNat IntKind.u16.bits)) = ((r' <<< 8).toNat : Int) := w16_shl r' 8 (by decide)
    refine CW.skip ?_
    refine KW.thenN ?_
    refine CW.seq ?_
    refine CW.block ?_
    refine CW.seq ?_
    refine CW.region ?_
    refine LW.v (ov_move rfl) ?_
    refine LW.v (ov_assign rfl) ?_
    refine LW.nil ?_
    refine KW.thenN ?_
    refine CW.region ?_
    refine LW.v (ov_move rfl) ?_
    refine LW.v (OpV.eq (ov_shl rfl rfl (by decide)) (congrArg (Value.int .u16) e8)) ?_
    refine LW.v (ov_move rfl) ?_
    refine LW.v (OpV.eq (ov_shr rfl rfl (by decide)) (congrArg (Value.int .u16) (w16_shr r' 8))) ?_
    refine LW.v (ov_toU un5 us125 rfl wrap_u8) ?_
    refine LW.v (ov_move rfl) ?_
    refine LW.v (ov_move rfl) ?_
    refine LW.v (ov_strIdx un9 rfl rfl rfl hc) ?_
    refine LW.v (ov_bits (.inr (.inr (.inl rfl))) rfl rfl ((tabIdx r' c).trans (by rw [hi]))) ?_
    refine LW.v (ov_idxA (i := i.toNat) ar186 ta125 rfl rfl rfl hil) ?_
    refine LW.v (ov_loadR 1 ta125 rfl rfl (by rw [Nat.zero_add, Nat.mul_one]; exact hcs)) ?_
    refine LW.v (ov_bits (.inr (.inr (.inl rfl))) rfl rfl (w16_xor (r' <<< 8) (tab16 i))) ?_
    refine LW.v (ov_assign rfl) ?_
    refine LW.nil ?_
    refine KW.blockN ?_
    refine KW.thenN ?_
    refine CW.region ?_
    first | refine LW.v (ov_add rfl rfl (by omega)) ?_ | refine LW.v (ov_addW rfl rfl) ?_
    refine LW.v (ov_move rfl) ?_
    refine LW.nil ?_
    exact KW.again (n - 1) [0, 1] (by omega) ⟨k + 1, _, by omega, hnx, rfl, rfl⟩ ⟨rfl, rfl, rfl, rfl, rfl, trivial⟩ rfl rfl
  · have hk : k = l.length := by omega
    subst hk
    rw [List.drop_length, nextT_eq l r] at hnx
    change r' = _ at hnx
    subst hnx
    refine CW.exit ?_
    refine KW.thenX ?_
    refine KW.thenX ?_
    refine KW.hit ?_
    refine KW.thenN ?_
    refine CW.seq ?_
    refine CW.region ?_
    refine LW.v (ov_move rfl) ?_
    refine LW.v (ov_assign rfl) ?_
    refine LW.nil ?_
    refine KW.thenN ?_
    refine CW.ret ?_
    exact KW.retF (.cons (.tmp rfl) (.nil)) [] rfl rfl (⟨rfl, rfl⟩)
def sum16 (l : List UInt8) : BitVec 16 := nextR 0xffff#16 l
theorem Sum16_ok {l : List UInt8} (hl : l.length ≤ 1000000000) : Fn Try.prog 54 #[S l] [] (Ret fun v Q => v = w16 (sum16 l) ∧ Q = []) := by
  refine Fn.of (args := _) Try.func54 rfl Try.ntmps54 rfl ?_
  intro w0 g0
  refine CW.seq ?_
  refine CW.region ?_
  refine LW.v (ov_assign rfl) ?_
  refine LW.nil ?_
  refine KW.thenN ?_
  refine CW.seq ?_
  refine CW.region ?_
  refine LW.v (ov_move rfl) ?_
  refine LW.call [] (oc_fn cf89 rfl) rfl rfl rfl rfl (Next16_ok 0xffff#16 hl) ?_
  rintro _ _ ⟨rfl, rfl⟩
  simp only [putBack, List.append_nil]
  refine LW.v (ov_assign rfl) ?_
  refine LW.nil ?_
  refine KW.thenN ?_
  refine CW.ret ?_
  exact KW.retF (.cons (.tmp rfl) (.nil)) [] rfl rfl (⟨rfl, rfl⟩)
theorem RSum16_ok {l : List UInt8} (hl : l.length ≤ 1000000000) : Fn Try.prog 62 #[S l] [] (Ret fun v Q => v = w16 (sum16 l) ∧ Q = []) := by
  refine Fn.of (args := _) Try.func62 rfl Try.ntmps62 rfl ?_
  intro w0 g0
  refine CW.seq ?_
  refine CW.region ?_
  refine LW.v (ov_assign rfl) ?_
  refine LW.nil ?_
  refine KW.thenN ?_
  refine CW.seq ?_
  refine CW.region ?_
  refine LW.v (ov_move rfl) ?_
  refine LW.call [] (oc_fn cf93 rfl) rfl rfl rfl rfl (RNext16_ok 0xffff#16 hl) ?_
  rintro _ _ ⟨rfl, rfl⟩
  simp only [putBack, List.append_nil]
  refine LW.v (ov_assign rfl) ?_
  refine LW.nil ?_
  refine KW.thenN ?_
  refine CW.ret ?_
  exact KW.retF (.cons (.tmp rfl) (.nil)) [] rfl rfl (⟨rfl, rfl⟩)
end Sx
end Go.Proofs.Ytdgphamhpjnmpaa

/- Slices that own their block, at a place in it. -/
namespace Go.Proofs.Ytdgphamhpjnmpaa
namespace Sx

/-- v is a slice of n elements of sz cells each somewhere in a block that is owned; xs: the cells. -/
def ownO (e : TypeId) (sz : Nat) (v : Value) (n : Nat) (xs : List Value) : HP := fun h =>
  xs.length = n * sz ∧ ((v = .slice none 0 0 ∧ n = 0) ∨ ∃ (b c : Nat) (pre extra post : List Value), v = .slice (some ⟨b, pre.length, none⟩) n c ∧ n ≤ c ∧ (xs ++ extra).length = c * sz ∧ row b e (pre ++ (xs ++ extra) ++ post) h)
theorem ownO_nil (e : TypeId) (sz : Nat) (h : Hl) : ownO e sz (.slice none 0 0) 0 [] h := ⟨by simp, .inl ⟨rfl, rfl⟩⟩
theorem ownO_of {e : TypeId} {sz : Nat} {v : Value} {n : Nat} {xs : List Value} : ∀ g, ownS e sz v n xs g → ownO e sz v n xs g := by
  rintro g ⟨h1, h2 | ⟨b, c, extra, h3, h4, h5, h6⟩⟩
  · exact ⟨h1, .inl h2⟩
  · exact ⟨h1, .inr ⟨b, c, [], extra, [], h3, h4, h5, by simpa using h6⟩⟩
theorem wr_tail : ∀ (ys pre post : List Value), ys.length ≤ post.length → (wr (pre ++ post) pre.length ys).drop (pre.length + ys.length) = post.drop ys.length := by
  intro ys; induction ys with
  | nil => intro pre post _; simp [wr]
  | cons y r ih =>
    intro pre post h
    cases post with
    | nil => simp at h
    | cons p post =>
      have h1 := ih (pre ++ [y]) post (by simpa using h)
      simp only [wr]
      have e1 : (pre ++ p :: post).set pre.length y = pre ++ [y] ++ post := by simp
      have e2 : (pre ++ [y]).length = pre.length + 1 := by simp
      rw [e1, ← e2]
      have e3 : pre.length + (y :: r).length = (pre ++ [y]).length + r.length := by simp; omega
      rw [e3, h1]; simp
theorem run_appendO {P : Program} {w : World} {e : TypeId} {sz bs : Nat} {t ty t2 : TypeId} {z : Value} {v x : Value} {n m : Nat} {xs ys : List Value} {As : List HP}
    (hu : sliceOf P t = some (e, sz, bs)) (hz : zeroOf P e = some z) (hzs : z.cells.size = sz) (ht2 : strOrSlice P t2) (hs : Sat w As) (i : Nat) (hi : As[i]? = some (ownO e sz v n xs))
    (hx : SrcOk P w sz x m ys) (hy : ys.length = m * sz) (hone : ∀ u ∈ ys, u.oneCell' = true) (hb : (n + m) * bs ≤ 2 ^ 40) (hbs : bs ≤ 2 ^ 20) (hn : n + m ≤ 2 ^ 40) :
    ∃ ad c' w', (Builtin.append_ #[t, t2] ty #[v, x]).run P w = .ok (.slice ad (n + m) c') w' ∧ Sat w' (As.set i (ownO e sz (.slice ad (n + m) c') (n + m) (xs ++ ys))) ∧ Same w w' := by
  obtain ⟨h1, q, h2, h3, h4⟩ := sliceOf_spec hu
  have hli := lt_of_get hi
  obtain ⟨g, ⟨hxl, hcase⟩, hs'⟩ := hs.take i hi
  have hget : (As.set i (ex g))[i]? = some (ex g) := by rw [List.getElem?_set_self hli]
  -- the run, apart from what the operands hold
  have fits : ∀ (base : Option Addr) (c : Nat), v = .slice base n c → n + m ≤ c → (Builtin.append_ #[t, t2] ty #[v, x]).run P w =
      ((match base with | some a => storeCells (a.add (n * sz)) ys | none => (pure () : Sem Unit)).run P w).andThen fun _ w' => .ok (.slice base (n + m) c) w' := by
    intro base c hv hc
    subst hv
    obtain ⟨hx1, hx2⟩ := hx w rfl
    rcases ht2 with hd | ⟨e', hd⟩ <;>
    · simp only [Builtin.append_, List.getElem?_toArray, List.getElem?_cons_zero, List.getElem?_cons_succ, Sem.run_bind, run_underlying h1, run_underlying hd, Result.andThen_ok, sizeOf, typeInfo, run_program, h2, Sem.run_pure,
        Sem.run_ite, Bool.false_eq_true, if_false, hx1, hc, if_true, Bool.not_false, h3, hx2]
      cases base <;> simp
  have grow : ∀ (base : Option Addr) (c : Nat), v = .slice base n c → ¬ n + m ≤ c → (∀ w' : World, w'.heap = w.heap → (Builtin.firstCells sz n v).run P w' = .ok xs.toArray w') →
      ∃ ad c' w', (Builtin.append_ #[t, t2] ty #[v, x]).run P w = .ok (.slice ad (n + m) c') w' ∧ Sat w' (As.set i (ownO e sz (.slice ad (n + m) c') (n + m) (xs ++ ys))) ∧ Same w w' := by
    intro base c hv hc hold
    have hcap := nextcap_le (n + m) c (by omega)
    have hroom : ¬ (Builtin.nextslicecap (n + m) c * bs > 2 ^ 48) := by
      have h5 : Builtin.nextslicecap (n + m) c * bs ≤ (2 * (n + m) + 1000) * bs := Nat.mul_le_mul_right _ hcap
      have h6 : (2 * (n + m) + 1000) * bs = 2 * ((n + m) * bs) + 1000 * bs := by rw [Nat.add_mul, Nat.mul_assoc]
      omega
    have hneed : ¬ ((((n + m : Nat) : Int) > IntKind.i64.max) ∧ (False ∨ bs = 0)) := by
      intro h; have : (IntKind.i64.max : Int) = 9223372036854775807 := by decide
      omega
    generalize hN : (Question.appendCap (n + m) c e).cut (w.tape w.drawn (.appendCap (n + m) c e)) = N
    have hNle : n + m ≤ N := by rw [← hN]; simp [Question.cut]
    let rest : List Value := (Builtin.zeroCells z.cells (N - (n + m))).toList
    let w1 : World := { w with drawn := w.drawn + 1 }
    let w' : World := { w1 with heap := w1.heap.push (.cells (xs ++ ys ++ rest).toArray e) }
    have hw1 := hold w1 rfl
    have hx1 := (hx w rfl).1
    have hx2 := (hx w1 rfl).2
    have hzz := zeroOf_spec hz w1
    have hch : (choose (.appendCap (n + m) c e)).run P w = .ok N w1 := by rw [run_choose]; simp [Question.forced, hN, w1]
    refine ⟨some ⟨w.heap.size, 0, none⟩, N, w', ?_, ?_, ⟨rfl, rfl, rfl⟩⟩
    · subst hv
      rcases ht2 with hd | ⟨e', hd⟩ <;>
      · simp only [Builtin.append_, List.getElem?_toArray, List.getElem?_cons_zero, List.getElem?_cons_succ, Sem.run_bind, run_underlying h1, run_underlying hd, Result.andThen_ok, sizeOf, typeInfo, run_program, h2, Sem.run_pure,
          Sem.run_ite, Bool.false_eq_true, if_false, hx1, hc, if_true, Bool.not_false, h3, h4, hneed, hroom, hch, run_askRoom, hw1, hx2, hzz, newRow, run_newObj]
        have ea : (xs.toArray ++ ys.toArray ++ Builtin.zeroCells z.cells (N - (n + m))) = (xs ++ ys ++ rest).toArray := by apply Array.ext'; simp [rest]
        rw [ea]
    · have hlen : (xs ++ ys ++ rest).length = N * sz := by
        simp only [List.length_append, hxl, hy, rest, zeroCells_len, hzs]
        rw [← Nat.add_mul, ← Nat.add_mul]; congr 1; omega
      have hp := (hs'.keep (w' := w1) (fun _ _ => rfl)).rowPush (w' := w') (t := e) (cs := xs ++ ys ++ rest) (fr := (0, 0)) (by simp) (pushNew w1 _) (pushOld w1 _)
      have h5 := hp.lastTo i (by simpa using hli)
      rw [List.set_set] at h5
      have h6 := h5.imp i (A := row w1.heap.size e (xs ++ ys ++ rest)) (B := ownO e sz (.slice (some ⟨w.heap.size, 0, none⟩) (n + m) N) (n + m) (xs ++ ys)) (by rw [List.getElem?_set_self hli])
        (fun g' hg' => ⟨by simp [hxl, hy, Nat.add_mul], .inr ⟨w1.heap.size, N, [], rest, [], rfl, hNle, hlen, by simpa using hg'⟩⟩)
      rw [List.set_set] at h6; exact h6
  rcases hcase with ⟨rfl, rfl⟩ | ⟨b, c, pre, extra, post, rfl, hnc, hcl, hrow⟩
  · simp only [Nat.zero_mul] at hxl
    have hx0 : xs = [] := List.eq_nil_of_length_eq_zero hxl
    subst hx0
    by_cases hm : m = 0
    · subst hm
      have hy0 : ys = [] := List.eq_nil_of_length_eq_zero (by simpa using hy)
      subst hy0
      refine ⟨none, 0, w, by rw [fits none 0 rfl (by omega)]; simp, ?_, Same.refl w⟩
      have := hs'.imp i (B := ownO e sz (.slice none 0 0) (0 + 0) ([] ++ [])) hget (fun g' _ => ownO_nil e sz g')
      rwa [List.set_set] at this
    · exact grow none 0 rfl (by omega) (fun w' _ => rfl)
  · have hs1 : Sat w (As.set i (row b e (pre ++ (xs ++ extra) ++ post))) := by
      have := hs'.imp i (B := row b e (pre ++ (xs ++ extra) ++ post)) hget (fun g' hg' => by rw [show g' = g from hg']; exact hrow)
      rwa [List.set_set] at this
    have hget1 : (As.set i (row b e (pre ++ (xs ++ extra) ++ post)))[i]? = some (row b e (pre ++ (xs ++ extra) ++ post)) := by rw [List.getElem?_set_self hli]
    obtain ⟨fr', hfr', hh⟩ := hs1.rowGet i hget1
    by_cases hc : n + m ≤ c
    · have hle : n * sz + ys.length ≤ (xs ++ extra).length := by
        rw [hcl, hy, ← Nat.add_mul]; exact Nat.mul_le_mul_right _ hc
      obtain ⟨w', g1, g2, g3, g4⟩ := storeCells_row (P := P) ys 0 (pre.length + n * sz) (pre ++ (xs ++ extra) ++ post) w hh hfr' (by simp only [List.length_append] at hle ⊢; omega) hone
      have hwr : ∃ extra', extra'.length = extra.length - ys.length ∧ wr (pre ++ (xs ++ extra) ++ post) (pre.length + n * sz + 0) ys = pre ++ ((xs ++ ys) ++ extra') ++ post := by
        rw [Nat.add_zero, ← hxl]
        have hyl : ys.length ≤ extra.length := by simp only [List.length_append] at hle; omega
        obtain ⟨ex', he⟩ := wr_app ys (pre ++ xs) (extra ++ post) (by simp only [List.length_append]; omega)
        have e0 : pre ++ (xs ++ extra) ++ post = (pre ++ xs) ++ (extra ++ post) := by simp
        rw [e0, ← List.length_append, he]
        have e1 : ex' = extra.drop ys.length ++ post := by
          have h7 := congrArg (List.drop ((pre ++ xs).length + ys.length)) he
          have h8 : (pre ++ xs ++ ys ++ ex').drop ((pre ++ xs).length + ys.length) = ex' := by
            rw [← List.length_append, List.drop_left]
          rw [h8] at h7
          rw [← h7, wr_tail ys (pre ++ xs) (extra ++ post) (by simp only [List.length_append]; omega), List.drop_append_of_le_length hyl]
        exact ⟨extra.drop ys.length, by simp, by rw [e1]; simp⟩
      obtain ⟨extra', hel, hwr⟩ := hwr
      refine ⟨some ⟨b, pre.length, none⟩, c, w', ?_, ?_, g4⟩
      · rw [fits _ c rfl hc]
        simp only [addr_add, g1, Result.andThen_ok]
      · have h5 := hs1.rowSet i hget1 (cs' := wr (pre ++ (xs ++ extra) ++ post) (pre.length + n * sz + 0) ys) (wr_length _ _ _) hfr' hh g2 g3
        rw [List.set_set] at h5
        have h6 := h5.imp i (B := ownO e sz (.slice (some ⟨b, pre.length, none⟩) (n + m) c) (n + m) (xs ++ ys)) (by rw [List.getElem?_set_self hli]) (fun g' hg' => ⟨by simp [hxl, hy, Nat.add_mul], .inr ⟨b, c, pre, extra', post, rfl, hc, by simp only [List.length_append] at hcl hle ⊢; omega, by rw [← hwr]; exact hg'⟩⟩)
        rwa [List.set_set] at h6
    · refine grow _ c rfl hc fun w' hw' => ?_
      have h1 := run_loadCells_list (P := P) (w := w') ⟨b, pre.length, none⟩ xs (fun j v hj => by
        have hjl := lt_of_get hj
        rw [addr_add, cell_heap hw', cellOf hh]
        rw [List.append_assoc, List.getElem?_append_right (by omega), Nat.add_sub_cancel_left, List.append_assoc, List.getElem?_append_left hjl]; exact hj)
      rw [hxl] at h1
      simpa [Builtin.firstCells] using h1

section
variable {C : Cx} {ds : List Deferred} {env : Env} {As : List HP} {d : Option Tmp} {ty : TypeId} {pos : String} {af : Array Edge} {gd : Option (Nat × Bool)} {K : Act → World → Prop}
theorem ox_appO {e : TypeId} {sz bs : Nat} {t t2 : TypeId} {z : Value} {v x : Value} {n m : Nat} {xs ys : List Value} {a1 a2 : Operand} {As' : Value → List HP}
    (hu : sliceOf C.P t = some (e, sz, bs)) (hz : zeroOf C.P e = some z) (hzs : z.cells.size = sz) (ht2 : strOrSlice C.P t2) (hx1 : evo env a1 = some v) (hx2 : evo env a2 = some x)
    (hsrc : ∀ w, Sat w As → SrcOk C.P w sz x m ys) (hy : ys.length = m * sz) (hone : (ys.all fun u => u.oneCell') = true) (hb : (n + m) * bs ≤ 2 ^ 40) (hbs : bs ≤ 2 ^ 20) (hn : n + m ≤ 2 ^ 40)
    (hi : ∀ v', Rep As (ownO e sz v n xs) (ownO e sz v' (n + m) (xs ++ ys)) (As' v')) : OpX C ds env As ⟨d, .call ⟨.builtin .append, #[a1, a2], #[t, t2]⟩, ty, pos, af, gd⟩ (n + m) As' := fun a w ha hs => by
  obtain ⟨i, h1, _⟩ := (hi v).spec
  have run := fun (j : Nat) (hj : As[j]? = some (ownO e sz v n xs)) => run_appendO (ty := ty) hu hz hzs ht2 hs j hj (hsrc w hs) hy (by simpa using hone) hb hbs hn
  obtain ⟨ad, c', w', h2, h3, h4⟩ := run i h1
  refine ⟨.slice ad (n + m) c', As' (.slice ad (n + m) c'), w', ⟨ad, c', rfl, rfl⟩, .inl ?_, ?_, h4⟩
  · simp [execOp, resolve, invoke, builtin, ha.eval hx1, ha.eval hx2, h2]
  · obtain ⟨j, h5, h6⟩ := (hi (.slice ad (n + m) c')).spec
    obtain ⟨ad2, c2, w2, g2, g3, g4⟩ := run j h5
    rw [h2] at g2
    simp only [Result.ok.injEq, Value.slice.injEq, true_and] at g2
    obtain ⟨⟨rfl, rfl⟩, rfl⟩ := g2
    rw [← h6]; exact g3
/-- append(b, s...) with a string's bytes -/
theorem ox_appOS {e : TypeId} {t t2 : TypeId} {v : Value} {n : Nat} {xs : List Value} {l : List UInt8} {a1 a2 : Operand} {As' : Value → List HP}
    (hu : sliceOf C.P t = some (e, 1, 1)) (hz : zeroOf C.P e = some (.int .u8 0)) (ht2 : C.P.underlying t2 = some .string) (hx1 : evo env a1 = some v) (hx2 : evo env a2 = some (S l))
    (hn : n + l.length ≤ 1000000000) (hi : ∀ v', Rep As (ownO e 1 v n xs) (ownO e 1 v' (n + l.length) (xs ++ l.map bv)) (As' v')) : OpX C ds env As ⟨d, .call ⟨.builtin .append, #[a1, a2], #[t, t2]⟩, ty, pos, af, gd⟩ (n + l.length) As' :=
  ox_appO (n := n) (m := l.length) (bs := 1) hu hz rfl (.inl ht2) hx1 hx2 (fun _ _ => src_str l) (by simp) (by simp [bv, Value.oneCell']) (by omega) (by omega) (by omega) hi
theorem ox_appSS {e : TypeId} {t t2 : TypeId} {v : Value} {n : Nat} {xs : List Value} {l : List UInt8} {a1 a2 : Operand} {As' : Value → List HP}
    (hu : sliceOf C.P t = some (e, 1, 1)) (hz : zeroOf C.P e = some (.int .u8 0)) (ht2 : C.P.underlying t2 = some .string) (hx1 : evo env a1 = some v) (hx2 : evo env a2 = some (S l))
    (hn : n + l.length ≤ 1000000000) (hi : ∀ v', Rep As (ownS e 1 v n xs) (ownS e 1 v' (n + l.length) (xs ++ l.map bv)) (As' v')) : OpX C ds env As ⟨d, .call ⟨.builtin .append, #[a1, a2], #[t, t2]⟩, ty, pos, af, gd⟩ (n + l.length) As' :=
  ox_append (n := n) (m := l.length) (bs := 1) hu hz rfl (.inl ht2) hx1 hx2 (fun _ _ => src_str l) (by simp) (by simp [bv, Value.oneCell']) (by omega) (by omega) (by omega) hi
/-- append(xs, x): x lies in a block of its own -/
theorem ox_appOR {e : TypeId} {sz bs : Nat} {t t2 e2 : TypeId} {z : Value} {v : Value} {n m b c : Nat} {tb : TypeId} {xs ys : List Value} {a1 a2 : Operand} {As' : Value → List HP} (j : Nat)
    (hu : sliceOf C.P t = some (e, sz, bs)) (hz : zeroOf C.P e = some z) (hzs : z.cells.size = sz) (ht2 : sliceOf C.P t2 = some (e2, sz, bs)) (hx1 : evo env a1 = some v) (hx2 : evo env a2 = some (.slice (some ⟨b, 0, none⟩) m c))
    (hj : As[j]? = some (row b tb ys)) (hy : ys.length = m * sz) (hone : (ys.all fun u => u.oneCell') = true) (hb : (n + m) * bs ≤ 2 ^ 40) (hbs : bs ≤ 2 ^ 20) (hn : n + m ≤ 2 ^ 40)
    (hi : ∀ v', Rep As (ownO e sz v n xs) (ownO e sz v' (n + m) (xs ++ ys)) (As' v')) : OpX C ds env As ⟨d, .call ⟨.builtin .append, #[a1, a2], #[t, t2]⟩, ty, pos, af, gd⟩ (n + m) As' :=
  ox_appO hu hz hzs (.inr ⟨e2, (sliceOf_spec ht2).1⟩) hx1 hx2 (fun _ hs => src_cells hy fun k u hk => by rw [hs.cell j hj, Nat.zero_add]; exact hk) hy hone hb hbs hn hi
theorem Wr_mid : ∀ (pre vs old rest : List Value), old.length = vs.length → Wr (pre ++ (old ++ rest)) pre.length vs (pre ++ (vs ++ rest)) := by
  intro pre; induction pre with
  | nil =>
    intro vs; induction vs with
    | nil => intro old rest h; have : old = [] := List.eq_nil_of_length_eq_zero h; subst this; exact .n
    | cons v vs ih =>
      intro old rest h
      cases old with
      | nil => simp at h
      | cons o old => exact .h (ih old rest (by simpa using h))
  | cons p pre ih => intro vs old rest h; exact .t (ih vs old rest h)
theorem bl_seq {N : Nat} : ∀ (vs pre old : List Value), old.length = vs.length → pre.length + vs.length ≤ N → (vs.all fun u => u.oneCell') = true → Bl ((List.range N).map fun i => (i * 1, 1)) (pre ++ old) ((vs.zipIdx pre.length).map fun p => (p.2, p.1)) (pre ++ vs) := by
  intro vs; induction vs with
  | nil => intro pre old h _ _; have : old = [] := List.eq_nil_of_length_eq_zero h; subst this; exact .n
  | cons v vs ih =>
    intro pre old h hN hone
    cases old with
    | nil => simp at h
    | cons o old =>
      simp only [List.all_cons, Bool.and_eq_true] at hone
      simp only [List.length_cons] at hN h
      have h1 := ih (pre ++ [v]) old (by omega) (by simp; omega) hone.2
      have e1 : (pre ++ [v]) ++ old = pre ++ ([v] ++ old) := by simp
      have e2 : (pre ++ [v]) ++ vs = pre ++ v :: vs := by simp
      rw [e1, e2, List.length_append, List.length_singleton] at h1
      simp only [List.zipIdx_cons, List.map_cons]
      exact .c (o := pre.length) (n := 1) (by rw [List.getElem?_map, List.getElem?_range (by omega)]; simp) (.one hone.1) rfl (Wr_mid pre [v] [o] old rfl) h1
/-- a slice literal of one-cell elements -/
theorem ob_bs1 {t e : TypeId} {bs n : Nat} {parts : Array (Nat × Operand)} {xs : List Operand} {vs : List Value} {z : Value} {As' : Nat → List HP} (hu : sliceOf C.P t = some (e, 1, bs)) (hz : zeroCells' C.P e = some [z]) (hp : parts.toList = xs.zipIdx.map fun p => (p.2, p.1)) (hx : evs env xs = some vs)
    (hl : vs.length = n) (hn : n ≤ 1000 ∧ 0 < n) (hone : (vs.all fun u => u.oneCell') = true) (hA : ∀ b, App As (row b e vs) (As' b)) :
    OpBA C ds env As ⟨d, .buildSlice t n parts, ty, pos, af, gd⟩ (fun b => .slice (some ⟨b, 0, none⟩) n n) As' := by
  have hev : ∀ (xs : List Operand) (vs : List Value) (k : Nat), evs env xs = some vs → evps env ((xs.zipIdx k).map fun p => (p.2, p.1)) = some ((vs.zipIdx k).map fun p => (p.2, p.1)) := by
    intro xs; induction xs with
    | nil => intro vs k h; simp [evs] at h; subst h; rfl
    | cons x r ih =>
      intro vs k h
      simp only [evs] at h
      split at h
      · rename_i v vs' h1 h2
        simp only [Option.some.injEq] at h; subst h
        simp only [List.zipIdx_cons, List.map_cons, evps, h1, ih vs' (k + 1) h2]
      · cases h
  have hfl : ∀ n : Nat, ((List.replicate n [z]).flatten).length = n := by intro n; simp
  have hb := bl_seq (N := n) vs [] (List.replicate n [z]).flatten (by rw [hfl, hl]) (by simp; omega) hone
  exact ob_buildSlice hu hz (ps := (vs.zipIdx 0).map fun p => (p.2, p.1)) (by rw [hp]; exact hev xs vs 0 hx) (by omega) rfl (by simpa using hb) hA
/-- a slice literal of one element -/
theorem ob_bsOne {t e : TypeId} {sz bs : Nat} {x : Operand} {v : Value} {zs vs : List Value} {As' : Nat → List HP} (hu : sliceOf C.P t = some (e, sz, bs)) (hz : zeroCells' C.P e = some zs) (hx : evo env x = some v)
    (hv : CellsOf v vs) (hl : vs.length = sz) (hzs : zs.length = sz) (hn : sz ≤ 1000 ∧ 0 < sz) (hA : ∀ b, App As (row b e vs) (As' b)) :
    OpBA C ds env As ⟨d, .buildSlice t 1 #[(0, x)], ty, pos, af, gd⟩ (fun b => .slice (some ⟨b, 0, none⟩) 1 1) As' := by
  refine ob_buildSlice hu hz (ps := [(0, v)]) (by simp [evps, hx]) (by omega) hzs (.c (o := 0 * sz) (n := sz) (by simp) hv hl (cs1 := vs) ?_ .n) hA
  have := Wr_mid [] vs zs [] (by omega)
  simpa using this
/-- s[:k:k] -/
theorem ov_slS3 {t e : TypeId} {sz bs : Nat} {ad : Option Addr} {l c i : Nat} {x hi mx : Operand} {k k' : IntKind} {m m' : Int} (hu : sliceOf C.P t = some (e, sz, bs)) (hx : evo env x = some (.slice ad l c)) (hh : evo env hi = some (.int k m)) (hm : evo env mx = some (.int k' m')) (h1 : m = (i : Int)) (h2 : m' = (i : Int)) (hic : i ≤ c) :
    OpV C ds env As ⟨d, .slice t x none (some hi) (some mx), ty, pos, af, gd⟩ (.slice (if i = 0 then ad else ad.map fun a => a.add (0 * sz)) i i) := fun f w ha _ => by
  subst h1; subst h2
  obtain ⟨g1, q, g2, g3, g4⟩ := sliceOf_spec hu
  have hb : (Instr.sliceBounds true l c none (some (.int k (i : Int))) (some (.int k' (i : Int)))).run C.P w = .ok (0, i, i) w := by
    unfold Instr.sliceBounds
    simp [run_bnd (P := C.P) w _ rfl hic, run_bnd (P := C.P) w _ rfl (Nat.le_refl i)]
  simp [execOp, ha.eval hx, ha.eval hh, ha.eval hm, Instr.sliceAt, Instr.slice, run_underlying g1, hb, sizeOf, typeInfo, g2, g3]
/-- make([]e, 0, n) -/
theorem ox_make0 {t e : TypeId} {sz bs : Nat} {m : Int} {x y : Operand} {k k' : IntKind} {As' : Value → List HP} (hu : sliceOf C.P t = some (e, sz, bs)) {zs : List Value} (hz : zeroCells' C.P e = some zs) (hzs : zs.length = sz) (hx : evo env x = some (.int k 0)) (hy : evo env y = some (.int k' m)) (hm : 0 ≤ m) (hb : bs * m.toNat ≤ 281474976710656) (hn : m.toNat ≤ 4611686018427387904)
    (hA : ∀ v, App As (ownS e sz v 0 []) (As' v)) : OpX C ds env As ⟨d, .makeSlice t x y, ty, pos, af, gd⟩ 0 As' := fun a w ha hs => by
  obtain ⟨n, rfl⟩ : ∃ n : Nat, m = n := ⟨m.toNat, by omega⟩
  rw [Int.toNat_natCast] at hb hn
  obtain ⟨h1, q, h2, h3, h4⟩ := sliceOf_spec hu
  obtain ⟨z, hz', hzc⟩ := zeroCells_spec hz
  have hi : q.zero = some z := by unfold zeroOf at hz'; rw [h2] at hz'; exact hz'
  have hrun := run_make (P := C.P) w t e q z h1 h2 hi k k' 0 n (by omega) (by omega) (by rw [h4, ← Int.natCast_mul]; exact Int.ofNat_le.2 hb) (by omega)
  have hcells : (w.alloc (.cells (madeCells z.cells ((n : Int).toNat * q.size)) e)) = { w with heap := w.heap.push (.cells ((List.replicate n zs).flatten).toArray e) } := by
    have := replR zs sz n hzs
    rw [show z.cells = zs.toArray from by rw [← hzc], h3, Int.toNat_natCast, ← this]; rfl
  rw [hcells] at hrun
  refine ⟨.slice (some ⟨w.heap.size, 0, none⟩) 0 n, _, { w with heap := w.heap.push (.cells ((List.replicate n zs).flatten).toArray e) }, ⟨_, _, rfl, rfl⟩, .inl ?_, ?_, ⟨rfl, rfl, rfl⟩⟩
  · simp only [execOp, ha.eval hx, ha.eval hy, Sem.run_bind, hrun, Result.andThen_ok, Sem.run_pure, Int.toNat_natCast]
    rfl
  · rw [← (hA _).spec]
    have h5 := hs.rowPush (t := e) (cs := (List.replicate n zs).flatten) (fr := (0, 0)) (by simp) (pushNew w _) (pushOld w _)
    have h6 := h5.imp As.length (A := row w.heap.size e (List.replicate n zs).flatten) (B := ownS e sz (.slice (some ⟨w.heap.size, 0, none⟩) 0 n) 0 []) (by simp)
      (fun g' hg' => ⟨by simp, .inr ⟨w.heap.size, n, (List.replicate n zs).flatten, rfl, Nat.zero_le _, by simp [hzs], by simpa using hg'⟩⟩)
    simpa using h6
end
end Sx
end Go.Proofs.Ytdgphamhpjnmpaa

/- The old heap: reading the arguments; nothing old is turned. -/
namespace Go.Proofs.Ytdgphamhpjnmpaa
namespace Sx
open Go.RowKit

/-- all that lies in the heap of W -/
def hall (W : World) : Hl := fun k => W.heap[k]?
theorem Sat.oldCell {W w : World} {As : List HP} (h : Sat w As) (i : Nat) (hi : As[i]? = some (ex (hall W))) {a : Addr} {v : Value} (hv : W.cell? a = some v) : w.cell? a = some v := by
  unfold World.cell? at hv ⊢
  cases e : W.heap[a.block]? with
  | none => rw [e] at hv; cases hv
  | some o => rw [h.getEx i hi (k := a.block) (o := o) e]; rw [e] at hv; exact hv
theorem Sat.oldBelow {W w : World} {As : List HP} (h : Sat w As) (i : Nat) (hi : As[i]? = some (ex (hall W))) (hs : Same W w) : Below W.heap.size W w := by
  have hb : ∀ k, k < W.heap.size → w.heap[k]? = W.heap[k]? := by
    intro k hk
    have e : W.heap[k]? = some W.heap[k] := Array.getElem?_eq_getElem hk
    rw [h.getEx i hi (k := k) (o := W.heap[k]) e, e]
  refine ⟨hs.os, hs.tape, hs.output, ?_, hb⟩
  by_cases q : W.heap.size = 0
  · omega
  · have hk : W.heap.size - 1 < W.heap.size := by omega
    have h1 := h.getEx i hi (k := W.heap.size - 1) (o := W.heap[W.heap.size - 1]) (Array.getElem?_eq_getElem hk)
    have := (Array.getElem?_eq_some_iff.1 h1).1
    omega
theorem Sat.hall0 (W : World) : Sat W [ex fun _ => none, ex (hall W)] := by
  refine ⟨fun i => if i = 0 then fun _ => none else hall W, fun i A hi => ?_, fun i j hi hj hij k => ?_, fun i hi k o hk => ?_⟩
  · match i, hi with
    | 0, hi => simp at hi; subst hi; rfl
    | 1, hi => simp at hi; subst hi; rfl
    | i + 2, hi => simp at hi
  · simp only [List.length_cons, List.length_nil] at hi hj
    by_cases q : i = 0
    · left; simp [q]
    · right; rw [if_pos (by omega)]
  · by_cases q : i = 0
    · simp [q] at hk
    · simp only [if_neg q] at hk; exact hk
/-- A contract over all that lay there: what a row asks for. -/
theorem Fn.row {P : Program} {f : FuncId} {args : Array Value} {W : World} {R : Value → Prop} (h : Fn P f args [ex (hall W)] (Ret fun v Q => R v ∧ Q = [ex (hall W)])) : Calls P f args W fun e W' => (∃ v, e = .returned v ∧ R v) ∧ Below W.heap.size W W' :=
  (h W (fun _ => none) (Sat.hall0 W)).mono fun e W' ⟨Q, hq, hs, hw⟩ => by
    cases e with
    | returned v =>
      obtain ⟨h1, rfl⟩ := hq
      exact ⟨⟨v, rfl, h1⟩, hs.oldBelow 1 rfl hw⟩
    | panicked _ => exact hq.elim
    | outgrown => exact hq.elim
end Sx
end Go.Proofs.Ytdgphamhpjnmpaa

/- Arguments: slices of structs of scalars, read from the old heap. -/
namespace Go.Proofs.Ytdgphamhpjnmpaa
namespace Sx
open Go.ChangeShapes Go.WideShapes Go.ChangeAt Go.RowKit

theorem flatF_get {P : Program} : ∀ (fs : List Field) (n : Nat) (ks : List Kd), flatF P fs n = some ks → ks.length = fs.length ∧ ∀ (j : Nat) (k : Kd), ks[j]? = some k → ∃ f, fs[j]? = some f ∧ kdOf P f.type = some k ∧ f.offset = n + j ∧ tyAgg P f.type = some (false, 1) := by
  intro fs; induction fs with
  | nil => intro n ks h; simp only [flatF, Option.some.injEq] at h; subst h; exact ⟨rfl, fun j k hk => by simp at hk⟩
  | cons f fs ih =>
    intro n ks h
    simp only [flatF] at h
    split at h
    · rename_i k r h1 h2 h3
      split at h
      · rename_i ho
        simp only [Option.some.injEq] at h; subst h
        obtain ⟨e1, e2⟩ := ih (n + 1) r h3
        refine ⟨by simp [e1], fun j k' hk => ?_⟩
        cases j with
        | zero => simp at hk; subst hk; exact ⟨f, rfl, h1, ho.1, h2⟩
        | succ j =>
          simp at hk
          obtain ⟨f', g1, g2, g3, g4⟩ := e2 j k' hk
          exact ⟨f', by simpa using g1, g2, by omega, g4⟩
      · cases h
    · cases h
theorem scs_of : ∀ (ks : List Kd) (cs : List Value), cs.length = ks.length → (∀ (j : Nat) (k : Kd), ks[j]? = some k → ∃ v, cs[j]? = some v ∧ Scs [k] [v]) → Scs ks cs := by
  intro ks; induction ks with
  | nil => intro cs h _; have : cs = [] := List.eq_nil_of_length_eq_zero (by simpa using h); subst this; exact .n
  | cons k ks ih =>
    intro cs h hj
    cases cs with
    | nil => simp at h
    | cons c cs =>
      have h1 := ih cs (by simpa using h) fun j k' hk => hj (j + 1) k' (by simpa using hk)
      obtain ⟨v, e1, e2⟩ := hj 0 k rfl
      simp at e1; subst e1
      cases e2 with
      | b _ => exact .b h1
      | i _ => exact .i h1
      | s _ => exact .s h1
section
variable {H : Type} {enc : TypeId × Value → H} {P : Program} {w : World} {base : Nat} {spare : Nat → Bool} {held : Bool}
theorem cellsOf_tyAgg {t : TypeId} {g : Bool} {n : Nat} (h : tyAgg P t = some (g, n)) : P.cellsOf t = n := by
  unfold tyAgg at h
  unfold Program.cellsOf
  split at h
  · rename_i u i h1 h2
    simp only [Option.some.injEq, Prod.mk.injEq] at h
    rw [h2]; exact h.2
  · cases h
theorem trod_kd {t : TypeId} {k : Kd} {fuel : Nat} {cs : List Value} {x : DataW H × List MemPlace} (hk : kdOf P t = some k) (h : DataW.trod enc P w base spare held fuel t cs = some x) : ∃ v, cs = [v] ∧ Scs [k] [v] := by
  unfold kdOf at hk
  split at hk
  · rename_i hu; cases hk; obtain ⟨b, rfl, _⟩ := DataW.trod_bool hu h; exact ⟨_, rfl, .b .n⟩
  · rename_i kk hu; cases hk; obtain ⟨b, rfl, _⟩ := DataW.trod_int hu h; exact ⟨_, rfl, .i .n⟩
  · rename_i hu; cases hk; obtain ⟨b, rfl, _⟩ := DataW.trod_string hu h; exact ⟨_, rfl, .s .n⟩
  · cases hk
theorem trod_flat {t : TypeId} {ks : List Kd} {fuel : Nat} {cs : List Value} {x : DataW H × List MemPlace} (hf : flatK P t = some ks) (hc : P.cellsOf t = ks.length) (h : DataW.trod enc P w base spare held fuel t cs = some x) : Scs ks cs := by
  unfold flatK at hf
  split at hf
  · rename_i fs hu
    split at hf
    · cases hf
    · obtain ⟨e1, e2⟩ := flatF_get fs.toList 0 ks hf
      obtain ⟨xs, n, _, _, hl, hlen, hx⟩ := DataW.trod_struct hu h
      refine scs_of ks cs (by omega) fun j k hk => ?_
      obtain ⟨f, g1, g2, g3, g4⟩ := e2 j k hk
      have h1 := hx j f (by simpa using g1)
      have hj : j < xs.length := by rw [hlen, ← Array.length_toList, ← e1]; exact lt_of_get hk
      rw [List.getElem?_eq_getElem hj] at h1
      obtain ⟨v, h2, h3⟩ := trod_kd g2 h1
      rw [cellsOf_tyAgg g4, g3, Nat.zero_add] at h2
      refine ⟨v, ?_, h3⟩
      have := congrArg (·[0]?) h2
      simpa [List.getElem?_take] using this
  · cases hf
/-- a slice of such structs, opened: the cells of each element -/
theorem open_flats {t e : TypeId} {ks : List Kd} {fuel : Nat} {a0 : Option Addr} {len cap : Nat} {x : DataW H × List MemPlace} (ht : P.underlying t = some (.slice e)) (hf : flatK P e = some ks) (hc : P.cellsOf e = ks.length)
    (h : DataW.trod enc P w base spare held fuel t [.slice a0 len cap] = some x) : len ≤ maxLen ∧ ∀ i, i < len → ∃ cs, Scs ks cs ∧ (ks ≠ [] → ∃ b off, a0 = some ⟨b, off, none⟩ ∧ ∀ (j : Nat) (v : Value), cs[j]? = some v → w.cell? ⟨b, off + i * ks.length + j, none⟩ = some v) := by
  rcases Go.Deep.open_slice ht h with ⟨hcs, _⟩ | ⟨a, len', cap', m, n, D, Pl, hcs, hb, hl, hm, hmm, _, hx⟩
  · simp at hcs; obtain ⟨_, rfl, _⟩ := hcs
    exact ⟨by decide, fun i hi => by omega⟩
  · simp only [List.cons.injEq, Value.slice.injEq, and_true] at hcs
    obtain ⟨rfl, rfl, rfl⟩ := hcs
    refine ⟨by omega, fun i hi => ?_⟩
    obtain ⟨cs, h1, h2⟩ := hx i (by rw [hmm]; split <;> omega)
    have hs := trod_flat hf hc h2
    refine ⟨cs, hs, fun hne => ?_⟩
    obtain ⟨_, hlen, hcell⟩ := World.cells?_some h1
    obtain ⟨b, off, spot⟩ := a
    have hk : 0 < ks.length := List.length_pos_iff.2 hne
    have hsp : spot = none := by
      obtain ⟨cs0, k1, k2⟩ := hx 0 (by rw [hmm]; split <;> omega)
      obtain ⟨_, hlen0, hcell0⟩ := World.cells?_some k1
      have h0 := hcell0 0 (by omega)
      have : 0 < cs0.length := by omega
      rw [List.getElem?_eq_getElem this] at h0
      have := World.cell?_spot h0
      cases spot with
      | none => rfl
      | some q => simp [Addr.add] at this
    subst hsp
    refine ⟨b, off, rfl, fun j v hj => ?_⟩
    have h0 := hcell j (by have := lt_of_get hj; omega)
    rw [hj, hc] at h0
    rw [addr_add, addr_add] at h0
    exact h0
/-- a slice of scalars, opened -/
theorem open_scalars {t e : TypeId} {k : Kd} {fuel : Nat} {a0 : Option Addr} {len cap : Nat} {x : DataW H × List MemPlace} (ht : P.underlying t = some (.slice e)) (hk : kdOf P e = some k) (hc : P.cellsOf e = 1)
    (h : DataW.trod enc P w base spare held fuel t [.slice a0 len cap] = some x) : len ≤ maxLen ∧ ∀ i, i < len → ∃ v, Scs [k] [v] ∧ ∃ b off, a0 = some ⟨b, off, none⟩ ∧ w.cell? ⟨b, off + i * 1, none⟩ = some v := by
  rcases Go.Deep.open_slice1 ht hc h with ⟨hcs, _⟩ | ⟨a, len', cap', m, n, V, D, Pl, hcs, hb, hl, hm, hmm, _, hx⟩
  · simp at hcs; obtain ⟨_, rfl, _⟩ := hcs
    exact ⟨by decide, fun i hi => by omega⟩
  · simp only [List.cons.injEq, Value.slice.injEq, and_true] at hcs
    obtain ⟨rfl, rfl, rfl⟩ := hcs
    refine ⟨by omega, fun i hi => ?_⟩
    obtain ⟨h1, h2⟩ := hx i (by rw [hmm]; split <;> omega)
    obtain ⟨v, e1, e2⟩ := trod_kd hk h2
    simp at e1
    obtain ⟨b, off, spot⟩ := a
    have hsp : spot = none := by
      obtain ⟨k1, _⟩ := hx 0 (by rw [hmm]; split <;> omega)
      have := World.cell?_spot k1
      cases spot with
      | none => rfl
      | some q => simp [Addr.add] at this
    subst hsp
    refine ⟨v, e2, b, off, rfl, ?_⟩
    rw [addr_add] at h1
    rw [Nat.mul_one, h1, e1]
/-- .. as a list -/
theorem list_of {α : Type} {p : Nat → α → Prop} {n : Nat} (h : ∀ i, i < n → ∃ v, p i v) : ∃ L : List α, L.length = n ∧ ∀ i (hi : i < L.length), p i L[i] := by
  induction n with
  | zero => exact ⟨[], rfl, fun i hi => by simp at hi⟩
  | succ n ih =>
    obtain ⟨L, h1, h2⟩ := ih fun i hi => h i (by omega)
    obtain ⟨v, hv⟩ := h n (by omega)
    refine ⟨L ++ [v], by simp [h1], fun i hi => ?_⟩
    by_cases q : i < L.length
    · rw [List.getElem_append_left q]; exact h2 i q
    · have : i = n := by simp at hi; omega
      subst this
      rw [List.getElem_append_right (by omega)]
      simpa using hv
theorem strings_of {a0 : Option Addr} {len : Nat} (h : ∀ i, i < len → ∃ v, Scs [.s] [v] ∧ ∃ b off, a0 = some ⟨b, off, none⟩ ∧ w.cell? ⟨b, off + i * 1, none⟩ = some v) :
    ∃ L : List (List UInt8), L.length = len ∧ ∀ i (hi : i < L.length), ∃ b off, a0 = some ⟨b, off, none⟩ ∧ w.cell? ⟨b, off + i * 1, none⟩ = some (S L[i]) :=
  list_of (p := fun i l => ∃ b off, a0 = some ⟨b, off, none⟩ ∧ w.cell? ⟨b, off + i * 1, none⟩ = some (S l)) fun i hi => by
    obtain ⟨v, h1, h2⟩ := h i hi
    cases h1 with
    | @s x _ _ _ => exact ⟨x.data.toList, by simpa [S] using h2⟩
theorem bools_of {a0 : Option Addr} {len : Nat} (h : ∀ i, i < len → ∃ v, Scs [.b] [v] ∧ ∃ b off, a0 = some ⟨b, off, none⟩ ∧ w.cell? ⟨b, off + i * 1, none⟩ = some v) :
    ∃ L : List Bool, L.length = len ∧ ∀ i (hi : i < L.length), ∃ b off, a0 = some ⟨b, off, none⟩ ∧ w.cell? ⟨b, off + i * 1, none⟩ = some (.bool L[i]) :=
  list_of (p := fun i l => ∃ b off, a0 = some ⟨b, off, none⟩ ∧ w.cell? ⟨b, off + i * 1, none⟩ = some (.bool l)) fun i hi => by
    obtain ⟨v, h1, h2⟩ := h i hi
    cases h1 with
    | @b x _ _ _ => exact ⟨x, h2⟩
end
end Sx
end Go.Proofs.Ytdgphamhpjnmpaa

/- Package packet: contracts of the small functions. -/
namespace Go.Proofs.Ytdgphamhpjnmpaa
namespace Sx

structure Pk where
  cmd : Bool
  apid : Int
  flags : Int
  count : Int
  data : List UInt8
abbrev pkv (p : Pk) : Value := .agg #[.bool p.cmd, .int .i64 p.apid, .int .i64 p.flags, .int .i64 p.count, S p.data]
def Pk.ok (p : Pk) : Prop := 0 ≤ p.apid ∧ p.apid ≤ 2047 ∧ 0 ≤ p.flags ∧ p.flags ≤ 3 ∧ 0 ≤ p.count ∧ p.count ≤ 16383 ∧ 1 ≤ p.data.length ∧ p.data.length ≤ 1024
instance (p : Pk) : Decidable p.ok := by unfold Pk.ok; exact inferInstance

theorem Valid_ok (p : Pk) : Fn Try.prog 68 #[pkv p] [] (Ret fun v Q => v = .bool (decide p.ok) ∧ Q = []) := by
  refine Fn.of (args := _) Try.func68 rfl Try.ntmps68 rfl ?_
  intro w0 g0
  refine CW.seq ?_
  refine CW.region ?_
  refine LW.opBA (ob_box rfl .agg (fun _ => .c (.n))) rfl rfl (fun b1 => ?_)
  refine LW.v (ov_assign rfl) ?_
  refine LW.nil ?_
  refine KW.thenN ?_
  refine CW.seq ?_
  refine CW.block ?_
  refine CW.seq ?_
  refine CW.seq ?_
  refine CW.region ?_
  refine LW.v (ov_fieldAddr fo110_1 rfl) ?_
  refine LW.v (ov_loadR 1 ta3 rfl rfl rfl) ?_
  refine LW.v (ov_lss rfl rfl) ?_
  refine LW.v (ov_assign rfl) ?_
  refine LW.nil ?_
  refine KW.thenN ?_
  have no : ¬ p.ok → Value.bool false = .bool (decide p.ok) := fun h => congrArg Value.bool (decide_eq_false h).symm
  unfold Pk.ok at no
  refine CW.condD (by rfl) (fun h => ?_) (fun h => ?_)
  · refine CW.skip ?_
    refine KW.thenN ?_
    refine CW.condT rfl (decide_eq_true h) ?_
    refine CW.seq ?_
    refine CW.region ?_
    refine LW.v (ov_assign rfl) ?_
    refine LW.nil ?_
    refine KW.thenN ?_
    refine CW.ret ?_
    refine KW.blockR ?_
    refine KW.thenR ?_
    exact KW.retF (.cons (.tmp rfl) .nil) [] rfl rfl ⟨no (by omega), rfl⟩
  · refine CW.seq ?_
    refine CW.region ?_
    refine LW.v (ov_fieldAddr fo110_1 rfl) ?_
    refine LW.v (ov_loadR 1 ta3 rfl rfl rfl) ?_
    refine LW.v (ov_gtr rfl rfl) ?_
    refine LW.v (ov_assign rfl) ?_
    refine LW.nil ?_
    refine KW.thenN ?_
    refine CW.condD (by rfl) (fun h => ?_) (fun h => ?_)
    · refine CW.skip ?_
      refine KW.thenN ?_
      refine CW.condT rfl (decide_eq_true h) ?_
      refine CW.seq ?_
      refine CW.region ?_
      refine LW.v (ov_assign rfl) ?_
      refine LW.nil ?_
      refine KW.thenN ?_
      refine CW.ret ?_
      refine KW.blockR ?_
      refine KW.thenR ?_
      exact KW.retF (.cons (.tmp rfl) .nil) [] rfl rfl ⟨no (by omega), rfl⟩
    · refine CW.seq ?_
      refine CW.region ?_
      refine LW.v (ov_fieldAddr fo110_2 rfl) ?_
      refine LW.v (ov_loadR 1 ta3 rfl rfl rfl) ?_
      refine LW.v (ov_lss rfl rfl) ?_
      refine LW.v (ov_assign rfl) ?_
      refine LW.nil ?_
      refine KW.thenN ?_
      refine CW.condD (by rfl) (fun h => ?_) (fun h => ?_)
      · refine CW.skip ?_
        refine KW.thenN ?_
        refine CW.condT rfl (decide_eq_true h) ?_
        refine CW.seq ?_
        refine CW.region ?_
        refine LW.v (ov_assign rfl) ?_
        refine LW.nil ?_
        refine KW.thenN ?_
        refine CW.ret ?_
        refine KW.blockR ?_
        refine KW.thenR ?_
        exact KW.retF (.cons (.tmp rfl) .nil) [] rfl rfl ⟨no (by omega), rfl⟩
      · refine CW.region ?_
        refine LW.v (ov_fieldAddr fo110_2 rfl) ?_
        refine LW.v (ov_loadR 1 ta3 rfl rfl rfl) ?_
        refine LW.v (ov_gtr rfl rfl) ?_
        refine LW.v (ov_assign rfl) ?_
        refine LW.nil ?_
        refine KW.thenN ?_
        refine CW.condD (by rfl) (fun h => ?_) (fun h => ?_)
        · refine CW.seq ?_
          refine CW.region ?_
          refine LW.v (ov_assign rfl) ?_
          refine LW.nil ?_
          refine KW.thenN ?_
          refine CW.ret ?_
          refine KW.blockR ?_
          refine KW.thenR ?_
          exact KW.retF (.cons (.tmp rfl) .nil) [] rfl rfl ⟨no (by omega), rfl⟩
        · refine CW.seq ?_
          refine CW.seq ?_
          refine CW.region ?_
          refine LW.v (ov_fieldAddr fo110_3 rfl) ?_
          refine LW.v (ov_loadR 1 ta3 rfl rfl rfl) ?_
          refine LW.v (ov_lss rfl rfl) ?_
          refine LW.v (ov_assign rfl) ?_
          refine LW.nil ?_
          refine KW.thenN ?_
          refine CW.condD (by rfl) (fun h => ?_) (fun h => ?_)
          · refine CW.skip ?_
            refine KW.thenN ?_
            refine CW.condT rfl (decide_eq_true h) ?_
            refine CW.seq ?_
            refine CW.region ?_
            refine LW.v (ov_assign rfl) ?_
            refine LW.nil ?_
            refine KW.thenN ?_
            refine CW.ret ?_
            refine KW.blockR ?_
            refine KW.thenR ?_
            exact KW.retF (.cons (.tmp rfl) .nil) [] rfl rfl ⟨no (by omega), rfl⟩
          · refine CW.seq ?_
            refine CW.region ?_
            refine LW.v (ov_fieldAddr fo110_3 rfl) ?_
            refine LW.v (ov_loadR 1 ta3 rfl rfl rfl) ?_
            refine LW.v (ov_gtr rfl rfl) ?_
            refine LW.v (ov_assign rfl) ?_
            refine LW.nil ?_
            refine KW.thenN ?_
            refine CW.condD (by rfl) (fun h => ?_) (fun h => ?_)
            · refine CW.skip ?_
              refine KW.thenN ?_
              refine CW.condT rfl (decide_eq_true h) ?_
              refine CW.seq ?_
              refine CW.region ?_
              refine LW.v (ov_assign rfl) ?_
              refine LW.nil ?_
              refine KW.thenN ?_
              refine CW.ret ?_
              refine KW.blockR ?_
              refine KW.thenR ?_
              exact KW.retF (.cons (.tmp rfl) .nil) [] rfl rfl ⟨no (by omega), rfl⟩
            · refine CW.seq ?_
              refine CW.region ?_
              refine LW.v (ov_fieldAddr fo110_4 rfl) ?_
              refine LW.v (ov_loadR 1 ta9 rfl rfl rfl) ?_
              refine LW.v (ov_strEql rfl rfl) ?_
              refine LW.v (ov_assign rfl) ?_
              refine LW.nil ?_
              refine KW.thenN ?_
              refine CW.condD (by rfl) (fun h => ?_) (fun h => ?_)
              · refine CW.skip ?_
                refine KW.thenN ?_
                refine CW.condT rfl (decide_eq_true h) ?_
                refine CW.seq ?_
                refine CW.region ?_
                refine LW.v (ov_assign rfl) ?_
                refine LW.nil ?_
                refine KW.thenN ?_
                refine CW.ret ?_
                refine KW.blockR ?_
                refine KW.thenR ?_
                exact KW.retF (.cons (.tmp rfl) .nil) [] rfl rfl ⟨no (by rw [h]; simp), rfl⟩
              · have hp := List.length_pos_iff.2 h
                refine CW.region ?_
                refine LW.v (ov_fieldAddr fo110_4 rfl) ?_
                refine LW.v (ov_loadR 1 ta9 rfl rfl rfl) ?_
                refine LW.v (ov_lenS un9 rfl) ?_
                refine LW.v (ov_gtr rfl rfl) ?_
                refine LW.v (ov_assign rfl) ?_
                refine LW.nil ?_
                refine KW.thenN ?_
                refine CW.condD (by rfl) (fun h => ?_) (fun h => ?_)
                · refine CW.seq ?_
                  refine CW.region ?_
                  refine LW.v (ov_assign rfl) ?_
                  refine LW.nil ?_
                  refine KW.thenN ?_
                  refine CW.ret ?_
                  refine KW.blockR ?_
                  refine KW.thenR ?_
                  exact KW.retF (.cons (.tmp rfl) .nil) [] rfl rfl ⟨no (by omega), rfl⟩
                · refine CW.skip ?_
                  refine KW.blockN ?_
                  refine KW.thenN ?_
                  refine CW.seq ?_
                  refine CW.region ?_
                  refine LW.v (ov_assign rfl) ?_
                  refine LW.nil ?_
                  refine KW.thenN ?_
                  refine CW.ret ?_
                  exact KW.retF (.cons (.tmp rfl) .nil) [] rfl rfl ⟨congrArg Value.bool (decide_eq_true (by unfold Pk.ok; omega)).symm, rfl⟩
theorem mask14 (x : Int) : bits2 .and .i64 x 16383 = x % 16384 := bits_mask x 14 (by omega)
theorem mask1 (x : Int) : bits2 .and .i64 x 1 = x % 2 := bits_mask x 1 (by omega)

end Sx
end Go.Proofs.Ytdgphamhpjnmpaa

/- Package packet: Put, Take, Split; strings.Clone. -/
namespace Go.Proofs.Ytdgphamhpjnmpaa
namespace Sx

theorem wr_all (ys cs : List Value) (h : ys.length = cs.length) : wr cs 0 ys = ys := by
  obtain ⟨p, hp⟩ := wr_app ys [] cs (by omega)
  simp only [List.nil_append, List.length_nil] at hp
  have := congrArg List.length hp
  rw [wr_length, List.length_append] at this
  have h0 : p = [] := List.eq_nil_of_length_eq_zero (by omega)
  rw [hp, h0]; simp

theorem sClone_ok {l : List UInt8} (hl : l.length ≤ 1000000000) : Fn Try.prog 56 #[S l] [] (Ret fun v Q => v = S l ∧ Q = []) := by
  refine Fn.of (args := _) Try.func56 rfl Try.ntmps56 rfl ?_
  intro w0 g0
  refine CW.seq ?_
  refine CW.region ?_
  refine LW.v (ov_assign rfl) ?_
  refine LW.nil ?_
  refine KW.thenN ?_
  refine CW.seq ?_
  refine CW.seq ?_
  refine CW.region ?_
  refine LW.v (ov_move rfl) ?_
  refine LW.v (ov_lenS un9 rfl) ?_
  refine LW.v (ov_eql rfl rfl) ?_
  refine LW.nil ?_
  refine KW.thenN ?_
  refine CW.condD (by rfl) (fun h0 => ?_) (fun h0 => ?_)
  · have : l = [] := List.eq_nil_of_length_eq_zero (by omega)
    subst this
    refine CW.seq ?_
    refine CW.region ?_
    refine LW.v (ov_assign rfl) ?_
    refine LW.nil ?_
    refine KW.thenN ?_
    refine CW.ret ?_
    refine KW.thenR ?_
    exact KW.retF (.cons (.tmp rfl) .nil) [] rfl rfl ⟨rfl, rfl⟩
  · refine CW.skip ?_
    refine KW.thenN ?_
    refine CW.seq ?_
    refine CW.region ?_
    refine LW.v (ov_move rfl) ?_
    refine LW.v (ov_lenS un9 rfl) ?_
    refine LW.opBA (ob_make so107 zc5 rfl rfl rfl (by omega) (by omega) (fun _ => (.c (.n)))) rfl rfl (fun b9 => ?_)
    refine LW.v (ov_assign rfl) ?_
    refine LW.nil ?_
    refine KW.thenN ?_
    refine CW.seq ?_
    refine CW.region ?_
    refine LW.v (ov_move rfl) ?_
    refine LW.v (ov_move rfl) ?_
    refine LW.opW (ow_copyS so107 rfl rfl (by simp) (cs' := l.map bv) (by simp [wr_all]) (.t (.h))) rfl rfl ?_
    refine LW.nil ?_
    refine KW.thenN ?_
    refine CW.seq ?_
    refine CW.region ?_
    refine LW.v (ov_move rfl) ?_
    refine LW.v (ov_idxL (i := 0) so107 rfl rfl rfl (by omega)) ?_
    refine LW.v (ov_move rfl) ?_
    refine LW.v (ov_lenL so107 rfl) ?_
    refine LW.opW (ow_unsafeStr un176 co5 rfl rfl (by omega) (by omega) (.t (.h))) rfl rfl ?_
    refine LW.v (ov_assign rfl) ?_
    refine LW.nil ?_
    refine KW.thenN ?_
    refine CW.ret ?_
    exact KW.retF (.cons (.tmp rfl) .nil) [] rfl rfl ⟨rfl, rfl⟩
theorem Clone_ok {l : List UInt8} (hl : l.length ≤ 1000000000) : Fn Try.prog 31 #[S l] [] (Ret fun v Q => v = S l ∧ Q = []) := by
  refine Fn.of (args := _) Try.func31 rfl Try.ntmps31 rfl ?_
  intro w0 g0
  refine CW.seq ?_
  refine CW.region ?_
  refine LW.v (ov_assign rfl) ?_
  refine LW.nil ?_
  refine KW.thenN ?_
  refine CW.seq ?_
  refine CW.region ?_
  refine LW.v (ov_move rfl) ?_
  refine LW.call [] (oc_fn cf56 rfl) rfl rfl rfl rfl (sClone_ok hl) ?_
  rintro _ _ ⟨rfl, rfl⟩
  simp only [putBack, List.append_nil]
  refine LW.v (ov_assign rfl) ?_
  refine LW.nil ?_
  refine KW.thenN ?_
  refine CW.ret ?_
  exact KW.retF (.cons (.tmp rfl) .nil) [] rfl rfl ⟨rfl, rfl⟩

def wb (n : Int) : List UInt8 := [UInt8.ofNat (n / 256 % 256).toNat, UInt8.ofNat (n % 256).toNat]
theorem bv_wrap (m : Int) : Value.int .u8 (IntKind.u8.wrap m) = bv (UInt8.ofNat (m % 256).toNat) := by
  have h : IntKind.u8.wrap m = m % 256 := rfl
  rw [h]
  simp only [bv, Value.int.injEq, true_and]
  have h1 : (m % 256).toNat < 256 := by omega
  rw [UInt8.toNat_ofNat', Nat.mod_eq_of_lt h1]
  omega
theorem bv_mod (m : Int) : Value.int .u8 (m % 256) = bv (UInt8.ofNat (m % 256).toNat) := bv_wrap m
theorem words_ok {b c : Nat} {ns : List Int} (hn : ns.length ≤ 1000) : Fn Try.prog 94 #[.slice (some ⟨b, 0, none⟩) ns.length c] [row b 3 (ns.map (Value.int .i64))]
    (Ret fun v Q => Q = [row b 3 (ns.map (Value.int .i64)), bytesA 5 v (ns.flatMap wb)]) := by
  refine Fn.of (args := _) Try.func94 rfl Try.ntmps94 rfl ?_
  intro w0 g0
  refine KW.newS 5 1 ?_
  simp only [List.cons_append, List.nil_append]
  refine CW.seq ?_
  refine CW.region ?_
  refine LW.v (ov_assign rfl) ?_
  refine LW.nil ?_
  refine KW.thenN ?_
  refine CW.seq ?_
  refine CW.region ?_
  refine LW.v (ov_assign rfl) ?_
  refine LW.nil ?_
  refine KW.thenN ?_
  refine CW.seq ?_
  refine CW.seq ?_
  refine CW.region ?_
  refine LW.v (ov_move rfl) ?_
  refine LW.v (ov_lenL so43 rfl) ?_
  refine LW.v (ov_move rfl) ?_
  refine LW.nil ?_
  refine KW.thenN ?_
  refine CW.block ?_
  refine CW.loopW (fun n env As => ∃ (k : Nat) (xs : List Value) (ad : Option Addr) (c' : Nat), k + n = ns.length ∧ xs = ((ns.take k).flatMap wb).map bv ∧ env = [(3, .slice ad (2 * k) c'), (6, .slice (some ⟨b, 0, none⟩) ns.length c), (7, .int .i64 ns.length), (8, .int .i64 k)] ∧ As = [ex g0, row b 3 (ns.map (Value.int .i64)), ownS 5 1 (.slice ad (2 * k) c') (2 * k) xs]) ns.length [0, 1, 2] ⟨0, [], none, 0, by simp, rfl, rfl, rfl⟩ ⟨rfl, rfl, rfl, rfl, trivial⟩ rfl rfl ?_
  rintro n _ _ ⟨k, xs, ad, c', hkn, hxs, rfl, rfl⟩
  refine CW.seq ?_
  refine CW.region ?_
  refine LW.v (ov_lss rfl rfl) ?_
  refine LW.nil ?_
  refine KW.thenN ?_
  refine CW.seq ?_
  refine CW.condD (by rfl) (fun h => ?_) (fun h => ?_)
  · have hk : k < ns.length := by omega
    refine CW.skip ?_
    refine KW.thenN ?_
    refine CW.seq ?_
    refine CW.block ?_
    refine CW.seq ?_
    refine CW.region ?_
    refine LW.v (ov_idxL so43 rfl rfl rfl (by omega)) ?_
    refine LW.v (ov_loadR 1 ta3 rfl rfl (v := .int .i64 ns[k]) (by simp [hk])) ?_
    refine LW.v (ov_assign rfl) ?_
    refine LW.nil ?_
    refine KW.thenN ?_
    refine CW.region ?_
    refine LW.v (ov_move rfl) ?_
    refine LW.v (ov_move rfl) ?_
    refine LW.v (ov_shrC (c := 256) rfl rfl (by decide) (by decide) (by decide)) ?_
    refine LW.v (ov_toU un5 us3 rfl wrap_u8) ?_
    refine LW.v (ov_move rfl) ?_
    refine LW.v (ov_toU un5 us3 rfl wrap_u8) ?_
    refine LW.opBA (ob_bs1 so107 zc5 (xs := [_, _]) rfl rfl rfl (by decide) rfl (fun _ => .c (.c (.c (.n))))) rfl rfl (fun b18 => ?_)
    refine LW.opX (ox_appR 3 so107 zo5 rfl so107 rfl rfl rfl rfl rfl (by omega) (by omega) (by omega) (fun _ => (.t (.t (.h))))) rfl rfl (fun a19 c19 => ?_)
    refine LW.v (ov_assign rfl) ?_
    refine LW.nil ?_
    refine KW.blockN ?_
    refine KW.thenN ?_
    refine CW.region ?_
    first | refine LW.v (ov_add rfl rfl (by omega)) ?_ | refine LW.v (ov_addW rfl rfl) ?_
    refine LW.v (ov_move rfl) ?_
    refine LW.nil ?_
    exact KW.again (n - 1) [0, 1, 2] (by omega) ⟨k + 1, _, _, _, by omega, by rw [bv_mod, bv_mod, List.take_succ_eq_append_getElem hk, List.flatMap_append, List.map_append, hxs]; rfl, rfl, rfl⟩ ⟨rfl, rfl, rfl, rfl, trivial⟩ rfl rfl
  · have hk : k = ns.length := by omega
    subst hk
    rw [List.take_length] at hxs
    have hl : (ns.flatMap wb).length = 2 * ns.length := by
      clear hn hkn h hxs
      induction ns with
      | nil => rfl
      | cons a r ih => simp [List.flatMap_cons, wb] at ih ⊢; omega
    subst hxs
    refine CW.exit ?_
    refine KW.thenX ?_
    refine KW.thenX ?_
    refine KW.hit ?_
    refine KW.thenN ?_
    refine CW.seq ?_
    refine CW.region ?_
    refine LW.v (ov_move rfl) ?_
    refine LW.v (ov_assign rfl) ?_
    refine LW.nil ?_
    refine KW.thenN ?_
    refine CW.ret ?_
    refine KW.retF (.cons (.tmp rfl) .nil) [1, 2] rfl rfl ?_
    show _ = [_, ownS _ _ _ _ _]
    rw [hl]; rfl

theorem bits_or {a b k : Nat} (hb : b < 2 ^ k) (h : a * 2 ^ k + b < 2 ^ 63) : bits2 .or .i64 ((a * 2 ^ k : Nat) : Int) (b : Int) = ((a * 2 ^ k + b : Nat) : Int) := by
  have e : (BitVec.ofInt 64 ((a * 2 ^ k : Nat) : Int) ||| BitVec.ofInt 64 (b : Int)).toNat = a * 2 ^ k + b := by
    have h64 : (2 : Nat) ^ 63 < 2 ^ 64 := by decide
    rw [BitVec.toNat_or, BitVec.toNat_ofInt, BitVec.toNat_ofInt, Int.emod_eq_of_lt (by omega) (by omega), Int.emod_eq_of_lt (by omega) (by omega), Int.toNat_natCast, Int.toNat_natCast]
    have := Nat.shiftLeft_add_eq_or_of_lt hb a
    rw [Nat.shiftLeft_eq] at this
    exact this.symm
  show IntKind.i64.wrap ((BitVec.ofInt 64 ((a * 2 ^ k : Nat) : Int) ||| BitVec.ofInt 64 (b : Int)).toNat : Int) = _
  rw [e, wrap_nat h]
theorem bits_or' {a b k : Nat} (hb : b < 2 ^ k) (h : a * 2 ^ k + b < 2 ^ 63) : bits2 .or .i64 (b : Int) ((a * 2 ^ k : Nat) : Int) = ((a * 2 ^ k + b : Nat) : Int) := by
  rw [← bits_or hb h]
  show IntKind.i64.wrap ((BitVec.ofInt 64 (b : Int) ||| BitVec.ofInt 64 ((a * 2 ^ k : Nat) : Int)).toNat : Int) = IntKind.i64.wrap ((BitVec.ofInt 64 ((a * 2 ^ k : Nat) : Int) ||| BitVec.ofInt 64 (b : Int)).toNat : Int)
  rw [BitVec.or_comm]

def enc (p : Pk) : List UInt8 := wb (p.apid + if p.cmd then 4096 else 0) ++ wb (p.flags * 16384 + p.count) ++ wb (p.data.length - 1) ++ p.data
theorem encoded_ok {p : Pk} (h : p.ok) : Fn Try.prog 69 #[pkv p] [] (Ret fun v Q => v = S (enc p) ∧ Q = []) := by
  obtain ⟨hp0, hp1, hp2, hp3, hp4, hp5, hp6, hp7⟩ := id h
  generalize hfst : (p.apid + if p.cmd then 4096 else 0) = fst
  refine Fn.of (args := _) Try.func69 rfl Try.ntmps69 rfl ?_
  intro w0 g0
  refine CW.seq ?_
  refine CW.region ?_
  refine LW.opBA (ob_box rfl .agg (fun _ => .c (.n))) rfl rfl (fun b1 => ?_)
  refine LW.v (ov_assign rfl) ?_
  refine LW.nil ?_
  refine KW.thenN ?_
  refine CW.seq ?_
  refine CW.region ?_
  refine LW.v (ov_fieldAddr fo110_1 rfl) ?_
  refine LW.v (ov_loadR 1 ta3 rfl rfl rfl) ?_
  refine LW.v (ov_assign rfl) ?_
  refine LW.nil ?_
  refine KW.thenN ?_
  refine CW.cut (fun env As => env = [(1, .pointer (some ⟨b1, 0, none⟩)), (3, .int .i64 fst)] ∧ As = [ex g0, row b1 110 [.bool p.cmd, .int .i64 p.apid, .int .i64 p.flags, .int .i64 p.count, S p.data]]) (fun M hM => ?_) ?_
  · refine CW.seq ?_
    refine CW.region ?_
    refine LW.v (ov_fieldAddr fo110_0 rfl) ?_
    refine LW.v (ov_loadR 1 ta4 rfl rfl rfl) ?_
    refine LW.nil ?_
    refine KW.thenN ?_
    refine CW.cond (by rfl) (fun hb => ?_) (fun hb => ?_)
    · have e1 : bits2 .or .i64 p.apid 4096 = p.apid + 4096 := by
        have := bits_or' (a := 1) (b := p.apid.toNat) (k := 12) (by omega) (by omega)
        rw [Int.toNat_of_nonneg hp0] at this
        rw [show ((1 * 2 ^ 12 : Nat) : Int) = 4096 from rfl] at this
        rw [this]; omega
      obtain rfl : p.apid + 4096 = fst := by rw [← hfst, hb]; rfl
      refine CW.region ?_
      refine LW.v (ov_move rfl) ?_
      refine LW.v (ov_bits (.inr (.inl rfl)) rfl rfl e1) ?_
      refine LW.v (ov_assign rfl) ?_
      refine LW.nil ?_
      refine KW.thenN ?_
      exact KW.meet [0, 1] hM ⟨rfl, rfl⟩ ⟨rfl, rfl, trivial⟩ rfl rfl
    · obtain rfl : p.apid = fst := by rw [← hfst, hb]; simp
      refine CW.skip ?_
      refine KW.thenN ?_
      exact KW.meet [0, 1] hM ⟨rfl, rfl⟩ ⟨rfl, rfl, trivial⟩ rfl rfl
  rintro _ _ ⟨rfl, rfl⟩
  have e13 : IntKind.i64.wrap (p.flags * 2 ^ (min (14 : Int).toNat IntKind.i64.bits)) = p.flags * 16384 := by
    have : (2 : Int) ^ (min (14 : Int).toNat IntKind.i64.bits) = 16384 := by decide
    rw [this, wrap_i64 (by omega)]
  have e16 : bits2 .or .i64 (p.flags * 16384) p.count = p.flags * 16384 + p.count := by
    have := bits_or (a := p.flags.toNat) (b := p.count.toNat) (k := 14) (by omega) (by omega)
    rw [show ((p.flags.toNat * 2 ^ 14 : Nat) : Int) = p.flags * 16384 from by omega, Int.toNat_of_nonneg hp4] at this
    rw [this]; omega
  refine CW.seq ?_
  refine CW.draw [1] rfl mixed rfl (ls := #[false, false, false, false, false, false, false, false, false, false, false, false, false, false, false, false, false, false]) (by kernel_rfl) ?_
  refine DW.tk 0 [1] rfl (ov_move rfl) ?_
  refine DW.tk 1 [1] rfl (ov_fieldAddr fo110_2 rfl) ?_
  refine DW.tk 2 [1] rfl (ov_loadR 0 ta3 rfl rfl rfl) ?_
  refine DW.tk 3 [1] rfl (OpV.eq (ov_shl rfl rfl (by decide)) (congrArg (Value.int .i64) e13)) ?_
  refine DW.tk 4 [1] rfl (ov_fieldAddr fo110_3 rfl) ?_
  refine DW.tk 5 [1] rfl (ov_loadR 0 ta3 rfl rfl rfl) ?_
  refine DW.tk 6 [1] rfl (ov_bits (.inr (.inl rfl)) rfl rfl e16) ?_
  refine DW.tk 7 [1] rfl (ov_fieldAddr fo110_4 rfl) ?_
  refine DW.tk 8 [1] rfl (ov_loadR 0 ta9 rfl rfl rfl) ?_
  refine DW.tk 9 [1] rfl (ov_lenS un9 rfl) ?_
  first | refine DW.tk 10 [1] rfl (ov_sub rfl rfl (by omega)) ?_ | refine DW.tk 10 [1] rfl (ov_subW rfl rfl) ?_
  refine DW.tk 14 [1] rfl (ov_fieldAddr fo110_4 rfl) ?_
  refine DW.tk 15 [1] rfl (ov_loadR 0 ta9 rfl rfl rfl) ?_
  refine DW.all1 11 (by kernel_rfl) ?_
  refine DO.opBA [1] rfl (ob_bs1 so43 zc3 (xs := [_, _, _]) rfl rfl rfl (by decide) rfl (fun _ => .c (.c (.n)))) rfl rfl (fun _ => rfl) (fun _ => rfl) rfl (fun b21 => ?_)
  refine DW.all1 12 (by kernel_rfl) ?_
  refine DO.call [1] [2] rfl (oc_fn cf94 rfl) rfl rfl rfl rfl (words_ok (ns := [fst, p.flags * 16384 + p.count, p.data.length - 1]) (by simp)) (by rintro _ _ rfl; exact ⟨rfl, rfl⟩) rfl ?_
  rintro _ _ rfl
  simp only [putBack, List.set_cons_succ, List.set_cons_zero, List.cons_append, List.nil_append]
  refine DW.all1 13 (by kernel_rfl) ?_
  refine DO.opV [1] rfl (ov_b2s 3 so107 un9 un5 rfl rfl) rfl rfl rfl rfl rfl ?_
  refine DW.tk 16 [1] rfl (ov_strAdd rfl rfl (by simp [wb]; omega)) ?_
  refine DW.tk 17 [1] rfl (ov_assign rfl) ?_
  refine DW.done (by kernel_rfl) ?_
  refine KW.thenN ?_
  refine CW.ret ?_
  exact KW.retF (.cons (.tmp rfl) .nil) [] rfl rfl ⟨by subst hfst; simp [enc, packV], rfl⟩

theorem Put_ok (p : Pk) : Fn Try.prog 40 #[pkv p] [] (Ret fun v Q => v = (if p.ok then .tuple #[S (enc p), .int .i64 0] else .tuple #[S [], .int .i64 2]) ∧ Q = []) := by
  refine Fn.of (args := _) Try.func40 rfl Try.ntmps40 rfl ?_
  intro w0 g0
  refine CW.seq ?_
  refine CW.region ?_
  refine LW.opBA (ob_box rfl .agg (fun _ => .c (.n))) rfl rfl (fun b1 => ?_)
  refine LW.v (ov_assign rfl) ?_
  refine LW.v (ov_assign rfl) ?_
  refine LW.nil ?_
  refine KW.thenN ?_
  refine CW.seq ?_
  refine CW.seq ?_
  refine CW.region ?_
  refine LW.v (ov_loadAR 1 ta110 rfl rfl (.h (.h (.h (.h (.h (.n))))))) ?_
  refine LW.call [] (oc_fn cf68 rfl) rfl rfl rfl rfl (Valid_ok p) ?_
  rintro _ _ ⟨rfl, rfl⟩
  simp only [putBack, List.append_nil]
  refine LW.v (ov_not rfl) ?_
  refine LW.nil ?_
  refine KW.thenN ?_
  by_cases h : p.ok
  · refine CW.condF rfl (by simp [h]) ?_
    refine CW.skip ?_
    refine KW.thenN ?_
    refine CW.seq ?_
    refine CW.region ?_
    refine LW.v (ov_loadAR 1 ta110 rfl rfl (.h (.h (.h (.h (.h (.n))))))) ?_
    refine LW.call [] (oc_fn cf69 rfl) rfl rfl rfl rfl (encoded_ok h) ?_
    rintro _ _ ⟨rfl, rfl⟩
    simp only [putBack, List.append_nil]
    refine LW.v (ov_assign rfl) ?_
    refine LW.v (ov_assign rfl) ?_
    refine LW.nil ?_
    refine KW.thenN ?_
    refine CW.ret ?_
    exact KW.retF (.cons (.tmp rfl) (.cons (.tmp rfl) .nil)) [] rfl rfl ⟨by rw [if_pos h]; rfl, rfl⟩
  · refine CW.condT rfl (by simp [h]) ?_
    refine CW.seq ?_
    refine CW.region ?_
    refine LW.v (ov_assign rfl) ?_
    refine LW.v (ov_assign rfl) ?_
    refine LW.nil ?_
    refine KW.thenN ?_
    refine CW.ret ?_
    refine KW.thenR ?_
    exact KW.retF (.cons (.tmp rfl) (.cons (.tmp rfl) .nil)) [] rfl rfl ⟨by rw [if_neg h]; rfl, rfl⟩
end Sx
end Go.Proofs.Ytdgphamhpjnmpaa

/- Package packet: Take. -/
namespace Go.Proofs.Ytdgphamhpjnmpaa
namespace Sx

def begB (l : List UInt8) : Bool := (match l[0]? with | none => true | some c => decide (bits2 .and .u8 c.toNat 232 = 0)) && (match l[4]? with | none => true | some c => decide (c.toNat < 4))
theorem begins_ok (l : List UInt8) : Fn Try.prog 90 #[S l] [] (Ret fun v Q => v = .bool (begB l) ∧ Q = []) := by
  refine Fn.of (args := _) Try.func90 rfl Try.ntmps90 rfl ?_
  intro w0 g0
  refine CW.seq ?_
  refine CW.region ?_
  refine LW.v (ov_assign rfl) ?_
  refine LW.nil ?_
  refine KW.thenN ?_
  refine CW.seq ?_
  refine CW.region ?_
  refine LW.v (ov_move rfl) ?_
  refine LW.v (ov_lenS un9 rfl) ?_
  refine LW.v (ov_lss rfl rfl) ?_
  refine LW.v (ov_move rfl) ?_
  refine KW.splitD 6 rfl (fun h => ?_) (fun h => ?_)
  · have : l = [] := List.eq_nil_of_length_eq_zero (by omega)
    subst this
    refine LW.skip rfl rfl ?_
    refine LW.skip rfl rfl ?_
    refine LW.skip rfl rfl ?_
    refine LW.skip rfl rfl ?_
    first | refine LW.v (ov_pickT rfl rfl) ?_ | refine LW.v (ov_pickF rfl rfl) ?_ | refine LW.v (ov_pick rfl rfl rfl) ?_
    refine LW.v (ov_move rfl) ?_
    refine LW.v (ov_move rfl) ?_
    refine LW.v (ov_lenS un9 rfl) ?_
    refine LW.v (ov_lss rfl rfl) ?_
    refine LW.v (ov_move rfl) ?_
    refine KW.splitD 16 rfl (fun h5 => ?_) (fun h5 => by simp at h5)
    refine LW.skip rfl rfl ?_
    refine LW.skip rfl rfl ?_
    refine LW.skip rfl rfl ?_
    first | refine LW.v (ov_pickT rfl rfl) ?_ | refine LW.v (ov_pickF rfl rfl) ?_ | refine LW.v (ov_pick rfl rfl rfl) ?_
    first | refine LW.v (ov_pickT rfl rfl) ?_ | refine LW.v (ov_pickF rfl rfl) ?_ | refine LW.v (ov_pick rfl rfl rfl) ?_
    refine LW.v (ov_assign rfl) ?_
    refine LW.nil ?_
    refine KW.thenN ?_
    refine CW.ret ?_
    exact KW.retF (.cons (.tmp rfl) .nil) [] rfl rfl ⟨rfl, rfl⟩
  · have hl0 : 0 < l.length := by omega
    obtain ⟨c0, hc0⟩ : ∃ c, l[0]? = some c := ⟨_, List.getElem?_eq_getElem hl0⟩
    refine LW.v (ov_move rfl) ?_
    refine LW.v (ov_strIdx (i := 0) un9 rfl rfl rfl (by assumption)) ?_
    refine LW.v (ov_and rfl rfl) ?_
    refine LW.v (ov_eql rfl rfl) ?_
    first | refine LW.v (ov_pickT rfl rfl) ?_ | refine LW.v (ov_pickF rfl rfl) ?_ | refine LW.v (ov_pick rfl rfl rfl) ?_
    refine LW.v (ov_move rfl) ?_
    refine KW.splitD 12 rfl (fun hb => ?_) (fun hb => ?_)
    · refine LW.v (ov_move rfl) ?_
      refine LW.v (ov_lenS un9 rfl) ?_
      refine LW.v (ov_lss rfl rfl) ?_
      refine LW.v (ov_move rfl) ?_
      refine KW.splitD 16 rfl (fun h5 => ?_) (fun h5 => ?_)
      · have hc4 : l[4]? = none := List.getElem?_eq_none (by omega)
        refine LW.skip rfl rfl ?_
        refine LW.skip rfl rfl ?_
        refine LW.skip rfl rfl ?_
        first | refine LW.v (ov_pickT rfl rfl) ?_ | refine LW.v (ov_pickF rfl rfl) ?_ | refine LW.v (ov_pick rfl rfl rfl) ?_
        first | refine LW.v (ov_pickT rfl rfl) ?_ | refine LW.v (ov_pickF rfl rfl) ?_ | refine LW.v (ov_pick rfl rfl rfl) ?_
        refine LW.v (ov_assign rfl) ?_
        refine LW.nil ?_
        refine KW.thenN ?_
        refine CW.ret ?_
        exact KW.retF (.cons (.tmp rfl) .nil) [] rfl rfl ⟨by simp [begB, hc0, hc4, hb, packV], rfl⟩
      · have hl4 : 4 < l.length := by omega
        obtain ⟨c4, hc4⟩ : ∃ c, l[4]? = some c := ⟨_, List.getElem?_eq_getElem hl4⟩
        refine LW.v (ov_move rfl) ?_
        refine LW.v (ov_strIdx (i := 4) un9 rfl rfl rfl (by assumption)) ?_
        refine LW.v (ov_lss rfl rfl) ?_
        first | refine LW.v (ov_pickT rfl rfl) ?_ | refine LW.v (ov_pickF rfl rfl) ?_ | refine LW.v (ov_pick rfl rfl rfl) ?_
        first | refine LW.v (ov_pickT rfl rfl) ?_ | refine LW.v (ov_pickF rfl rfl) ?_ | refine LW.v (ov_pick rfl rfl rfl) ?_
        refine LW.v (ov_assign rfl) ?_
        refine LW.nil ?_
        refine KW.thenN ?_
        refine CW.ret ?_
        exact KW.retF (.cons (.tmp rfl) .nil) [] rfl rfl ⟨by simp [begB, hc0, hc4, hb, packV]; omega, rfl⟩
    · refine LW.skip rfl rfl ?_
      refine LW.skip rfl rfl ?_
      refine LW.skip rfl rfl ?_
      refine LW.skip rfl rfl ?_
      refine LW.skip rfl rfl ?_
      refine LW.skip rfl rfl ?_
      refine LW.skip rfl rfl ?_
      refine LW.skip rfl rfl ?_
      first | refine LW.v (ov_pickT rfl rfl) ?_ | refine LW.v (ov_pickF rfl rfl) ?_ | refine LW.v (ov_pick rfl rfl rfl) ?_
      refine LW.v (ov_assign rfl) ?_
      refine LW.nil ?_
      refine KW.thenN ?_
      refine CW.ret ?_
      exact KW.retF (.cons (.tmp rfl) .nil) [] rfl rfl ⟨by simp [begB, hc0, hb, packV], rfl⟩

/-- the number at a place -/
def word (l : List UInt8) (i : Nat) : Int := match l[i]?, l[i + 1]? with
  | some a, some b => a.toNat * 256 + b.toNat
  | _, _ => 0
theorem word_lt (l : List UInt8) (i : Nat) : 0 ≤ word l i ∧ word l i < 65536 := by
  unfold word
  split
  · rename_i a b _ _
    have := a.toNat_lt; have := b.toNat_lt
    omega
  · omega
theorem word_ok {b : Nat} {l : List UInt8} {i : Nat} (hi : i + 1 < l.length) (hl : l.length ≤ 1000000000) : Fn Try.prog 91 #[.int .i64 i, .pointer (some ⟨b, 0, none⟩)] [row b 9 [S l]] (Ret fun v Q => v = .int .i64 (word l i) ∧ Q = [row b 9 [S l]]) := by
  refine Fn.of (args := _) Try.func91 rfl Try.ntmps91 rfl ?_
  intro w0 g0
  have hi0 : i < l.length := by omega
  obtain ⟨c0, hc0⟩ : ∃ c, l[i]? = some c := ⟨_, List.getElem?_eq_getElem hi0⟩
  obtain ⟨c1, hc1⟩ : ∃ c, l[i + 1]? = some c := ⟨_, List.getElem?_eq_getElem hi⟩
  have e8 : IntKind.i64.wrap (IntKind.i64.wrap c0.toNat * 2 ^ (min (8 : Int).toNat IntKind.i64.bits)) = c0.toNat * 256 := by
    have h := c0.toNat_lt
    have : (2 : Int) ^ (min (8 : Int).toNat IntKind.i64.bits) = 256 := by decide
    have e1 : IntKind.i64.wrap c0.toNat = c0.toNat := wrap_i64 (by omega)
    rw [e1, this, wrap_i64 (by omega)]
  have e14 : bits2 .or .i64 ((c0.toNat : Int) * 256) (IntKind.i64.wrap c1.toNat) = word l i := by
    have h := c0.toNat_lt
    have h' := c1.toNat_lt
    rw [wrap_i64 (by omega)]
    have := bits_or (a := c0.toNat) (b := c1.toNat) (k := 8) (by omega) (by omega)
    simp only [word, hc0, hc1]
    rw [show ((c0.toNat * 2 ^ 8 : Nat) : Int) = c0.toNat * 256 from by omega] at this
    rw [this]; omega
  refine CW.seq ?_
  refine CW.region ?_
  refine LW.v (ov_assign rfl) ?_
  refine LW.nil ?_
  refine KW.thenN ?_
  refine CW.seq ?_
  refine CW.draw [1] rfl mixed rfl (ls := #[false, false, false, false, false, false, false, false, false, false, false, false]) (by kernel_rfl) ?_
  refine DW.tk 0 [1] rfl (ov_loadR 0 ta9 rfl rfl rfl) ?_
  refine DW.tk 1 [1] rfl (ov_move rfl) ?_
  refine DW.tk 2 [1] rfl (ov_strIdx un9 rfl rfl rfl (by assumption)) ?_
  first | refine DW.tk 3 [1] rfl (ov_toI64 un3 us5 rfl (by omega)) ?_ | refine DW.tk 3 [1] rfl (ov_toInt un3 us5 rfl) ?_
  refine DW.tk 4 [1] rfl (OpV.eq (ov_shl rfl rfl (by decide)) (congrArg (Value.int .i64) e8)) ?_
  refine DW.tk 5 [1] rfl (ov_loadR 0 ta9 rfl rfl rfl) ?_
  refine DW.tk 6 [1] rfl (ov_move rfl) ?_
  first | refine DW.tk 7 [1] rfl (ov_add rfl rfl (by omega)) ?_ | refine DW.tk 7 [1] rfl (ov_addW rfl rfl) ?_
  refine DW.tk 8 [1] rfl (ov_strIdx (i := i + 1) un9 rfl rfl rfl hc1) ?_
  first | refine DW.tk 9 [1] rfl (ov_toI64 un3 us5 rfl (by omega)) ?_ | refine DW.tk 9 [1] rfl (ov_toInt un3 us5 rfl) ?_
  refine DW.tk 10 [1] rfl (ov_bits (.inr (.inl rfl)) rfl rfl e14) ?_
  refine DW.tk 11 [1] rfl (ov_assign rfl) ?_
  refine DW.done (by kernel_rfl) ?_
  refine KW.thenN ?_
  refine CW.ret ?_
  exact KW.retF (.cons (.tmp rfl) .nil) [1] rfl rfl ⟨rfl, rfl⟩

def pk0 : Pk := ⟨false, 0, 0, 0, []⟩
/-- the packet that is taken, its length, the error -/
def takeK (l : List UInt8) : Pk × Nat × Int :=
  if begB l = false then (pk0, 0, 6) else if l.length < 6 then (pk0, 0, 4) else
  let n := 7 + (word l 4).toNat
  if l.length < n then (pk0, 0, 4) else
  (⟨decide (word l 0 / 4096 % 2 ≠ 0), word l 0 % 2048, word l 2 / 16384, word l 2 % 16384, (l.drop 6).take (n - 6)⟩, n, 0)
theorem Take_ok {l : List UInt8} (hl : l.length ≤ 1000000000) : Fn Try.prog 57 #[S l] [] (Ret fun v Q => v = .tuple #[pkv (takeK l).1, .int .i64 (takeK l).2.1, .int .i64 (takeK l).2.2] ∧ Q = []) := by
  refine Fn.of (args := _) Try.func57 rfl Try.ntmps57 rfl ?_
  intro w0 g0
  refine CW.seq ?_
  refine CW.region ?_
  refine LW.opBA (ob_box rfl (.one rfl) (fun _ => .c (.n))) rfl rfl (fun b1 => ?_)
  refine LW.opBA (ob_alloc zc110 (fun _ => .c (.c (.n)))) rfl rfl (fun b2 => ?_)
  refine LW.v (ov_assign rfl) ?_
  refine LW.v (ov_assign rfl) ?_
  refine LW.nil ?_
  refine KW.thenN ?_
  refine CW.seq ?_
  refine CW.seq ?_
  refine CW.region ?_
  refine LW.v (ov_loadR 1 ta9 rfl rfl rfl) ?_
  refine LW.call [] (oc_fn cf90 rfl) rfl rfl rfl rfl (begins_ok l) ?_
  rintro _ _ ⟨rfl, rfl⟩
  simp only [putBack, List.append_nil]
  refine LW.v (ov_not rfl) ?_
  refine LW.nil ?_
  refine KW.thenN ?_
  by_cases h : begB l = false
  · refine CW.condT rfl (by simp [h]) ?_
    refine CW.seq ?_
    refine CW.region ?_
    refine LW.v (ov_build zc110 pl110 rfl (.n)) ?_
    refine LW.opU (ou_storeW ta110 rfl rfl .agg rfl rfl (.h (.h (.h (.h (.h (.n)))))) (.t (.t (.h)))) rfl ?_
    refine LW.v (ov_assign rfl) ?_
    refine LW.v (ov_assign rfl) ?_
    refine LW.nil ?_
    refine KW.thenN ?_
    refine CW.ret ?_
    refine KW.thenR ?_
    have e : takeK l = (pk0, 0, 6) := by rw [takeK, if_pos h]
    rw [e]
    exact KW.retF (.cons (ResV.cellA 2 ta110 rfl rfl (.h (.h (.h (.h (.h .n)))))) (.cons (.tmp rfl) (.cons (.tmp rfl) .nil))) [] rfl rfl ⟨rfl, rfl⟩
  refine CW.condF rfl (by simpa using h) ?_
  refine CW.skip ?_
  refine KW.thenN ?_
  refine CW.seq ?_
  refine CW.seq ?_
  refine CW.region ?_
  refine LW.v (ov_loadR 1 ta9 rfl rfl rfl) ?_
  refine LW.v (ov_lenS un9 rfl) ?_
  refine LW.v (ov_lss rfl rfl) ?_
  refine LW.nil ?_
  refine KW.thenN ?_
  refine CW.condD (by rfl) (fun h6 => ?_) (fun h6 => ?_)
  · refine CW.seq ?_
    refine CW.region ?_
    refine LW.v (ov_build zc110 pl110 rfl (.n)) ?_
    refine LW.opU (ou_storeW ta110 rfl rfl .agg rfl rfl (.h (.h (.h (.h (.h (.n)))))) (.t (.t (.h)))) rfl ?_
    refine LW.v (ov_assign rfl) ?_
    refine LW.v (ov_assign rfl) ?_
    refine LW.nil ?_
    refine KW.thenN ?_
    refine CW.ret ?_
    refine KW.thenR ?_
    have e : takeK l = (pk0, 0, 4) := by rw [takeK, if_neg h, if_pos (by omega)]
    rw [e]
    exact KW.retF (.cons (ResV.cellA 2 ta110 rfl rfl (.h (.h (.h (.h (.h .n)))))) (.cons (.tmp rfl) (.cons (.tmp rfl) .nil))) [] rfl rfl ⟨rfl, rfl⟩
  obtain ⟨hw40, hw41⟩ := word_lt l 4
  obtain ⟨hw00, hw01⟩ := word_lt l 0
  obtain ⟨hw20, hw21⟩ := word_lt l 2
  refine CW.skip ?_
  refine KW.thenN ?_
  refine CW.seq ?_
  refine CW.region ?_
  refine LW.v (ov_mkFunc rfl rfl) ?_
  refine LW.v (ov_assign rfl) ?_
  refine LW.nil ?_
  refine KW.thenN ?_
  refine CW.seq ?_
  refine CW.region ?_
  refine LW.v (ov_move rfl) ?_
  refine LW.call [1] (oc_clo (by kernel_rfl) rfl rfl) rfl rfl rfl rfl (word_ok (l := l) (i := 4) (by omega) hl) ?_
  rintro _ _ ⟨rfl, rfl⟩
  simp only [putBack, List.set_cons_succ, List.set_cons_zero, List.append_nil]
  first | refine LW.v (ov_add rfl rfl (by omega)) ?_ | refine LW.v (ov_addW rfl rfl) ?_
  first | refine LW.v (ov_add rfl rfl (by omega)) ?_ | refine LW.v (ov_addW rfl rfl) ?_
  refine LW.v (ov_assign rfl) ?_
  refine LW.nil ?_
  refine KW.thenN ?_
  refine CW.seq ?_
  refine CW.seq ?_
  refine CW.region ?_
  refine LW.v (ov_loadR 1 ta9 rfl rfl rfl) ?_
  refine LW.v (ov_lenS un9 rfl) ?_
  refine LW.v (ov_move rfl) ?_
  refine LW.v (ov_lss rfl rfl) ?_
  refine LW.nil ?_
  refine KW.thenN ?_
  refine CW.condD (by rfl) (fun hn => ?_) (fun hn => ?_)
  · refine CW.seq ?_
    refine CW.region ?_
    refine LW.v (ov_build zc110 pl110 rfl (.n)) ?_
    refine LW.opU (ou_storeW ta110 rfl rfl .agg rfl rfl (.h (.h (.h (.h (.h (.n)))))) (.t (.t (.h)))) rfl ?_
    refine LW.v (ov_assign rfl) ?_
    refine LW.v (ov_assign rfl) ?_
    refine LW.nil ?_
    refine KW.thenN ?_
    refine CW.ret ?_
    refine KW.thenR ?_
    have e : takeK l = (pk0, 0, 4) := by rw [takeK, if_neg h, if_neg (by omega)]; simp only; rw [if_pos (by omega)]
    rw [e]
    exact KW.retF (.cons (ResV.cellA 2 ta110 rfl rfl (.h (.h (.h (.h (.h .n)))))) (.cons (.tmp rfl) (.cons (.tmp rfl) .nil))) [] rfl rfl ⟨rfl, rfl⟩
  refine CW.skip ?_
  refine KW.thenN ?_
  refine CW.seq ?_
  have e28 : bits2 .and .i64 (word l 0) 4096 = word l 0 / 4096 % 2 * 4096 := by
    have key : ∀ n : Nat, n &&& 4096 = n / 4096 % 2 * 4096 := by
      intro n
      have h1 : n &&& 4096 = if n.testBit 12 then 4096 else 0 := by
        rw [show (4096 : Nat) = 2 ^ 12 from rfl]
        apply Nat.eq_of_testBit_eq
        intro i
        rw [Nat.testBit_and, Nat.testBit_two_pow]
        by_cases q : 12 = i
        · subst q; cases n.testBit 12 <;> decide
        · have h2 : (4096 : Nat).testBit i = false := by rw [show (4096 : Nat) = 2 ^ 12 from rfl, Nat.testBit_two_pow]; simpa using q
          cases n.testBit 12 <;> simp [q, h2]
      rw [h1, Nat.testBit_eq_decide_div_mod_eq]
      by_cases q : n / 2 ^ 12 % 2 = 1
      · rw [if_pos (by simpa using q)]; omega
      · rw [if_neg (by simpa using q)]; omega
    have e0 : (BitVec.ofInt 64 (word l 0) &&& BitVec.ofInt 64 4096).toNat = (word l 0).toNat &&& 4096 := by
      rw [BitVec.toNat_and, BitVec.toNat_ofInt, BitVec.toNat_ofInt, Int.emod_eq_of_lt (by omega) (by omega)]; rfl
    show IntKind.i64.wrap ((BitVec.ofInt 64 (word l 0) &&& BitVec.ofInt 64 4096).toNat : Int) = _
    rw [e0, key, wrap_nat (by omega)]
    omega
  have e32 : bits2 .and .i64 (word l 0) 2047 = word l 0 % 2048 := bits_mask _ 11 (by omega)
  have e35 : (word l 2).fdiv (2 ^ (min (14 : Int).toNat IntKind.i64.bits)) = word l 2 / 16384 := Int.fdiv_eq_ediv_of_nonneg _ (by decide)
  generalize hN : 7 + (word l 4).toNat = n
  refine CW.draw [1] rfl mixed rfl (ls := #[false, false, false, false, false, false, false, false, false, false, false, false, false, false, false, false, false, false, false, false]) (by kernel_rfl) ?_
  have e : takeK l = (⟨decide (word l 0 / 4096 % 2 ≠ 0), word l 0 % 2048, word l 2 / 16384, word l 2 % 16384, (l.drop 6).take (n - 6)⟩, n, 0) := by
    rw [takeK, if_neg h, if_neg (by omega)]; simp only; rw [hN, if_neg (by omega)]
  rw [e]
  have en : (6 + word l 4 + 1 : Int) = (n : Int) := by omega
  have ec : decide (word l 0 / 4096 % 2 * 4096 ≠ 0) = decide (word l 0 / 4096 % 2 ≠ 0) := decide_eq_decide.2 (by omega)
  refine DW.tk 0 [1] rfl (ov_move rfl) ?_
  refine DW.tk 4 [1] rfl (ov_move rfl) ?_
  refine DW.tk 7 [1] rfl (ov_move rfl) ?_
  refine DW.tk 10 [1] rfl (ov_move rfl) ?_
  refine DW.tk 13 [1] rfl (ov_loadR 0 ta9 rfl rfl rfl) ?_
  refine DW.tk 14 [1] rfl (ov_move rfl) ?_
  refine DW.tk 15 [1] rfl (ov_strSlice (i := 6) (j := n) un9 rfl ⟨_, _, rfl, rfl⟩ ⟨_, _, rfl, by omega⟩ (by omega) (by omega)) ?_
  refine DW.all2 1 18 (by kernel_rfl) ?_ ?_
  · refine DO.call [1] [1] rfl (oc_clo (by kernel_rfl) rfl rfl) rfl rfl rfl rfl (word_ok (l := l) (i := 0) (by omega) hl) (by rintro _ _ ⟨rfl, rfl⟩; exact ⟨rfl, rfl⟩) rfl ?_
    rintro _ _ ⟨rfl, rfl⟩
    simp only [putBack, List.set_cons_succ, List.set_cons_zero, List.append_nil]
    refine DW.tk 2 [1] rfl (ov_bits (.inl rfl) rfl rfl e28) ?_
    refine DW.tk 3 [1] rfl (ov_neq rfl rfl) ?_
    refine DW.all2 5 18 (by kernel_rfl) ?_ ?_
    · refine DO.call [1] [1] rfl (oc_clo (by kernel_rfl) rfl rfl) rfl rfl rfl rfl (word_ok (l := l) (i := 0) (by omega) hl) (by rintro _ _ ⟨rfl, rfl⟩; exact ⟨rfl, rfl⟩) rfl ?_
      rintro _ _ ⟨rfl, rfl⟩
      simp only [putBack, List.set_cons_succ, List.set_cons_zero, List.append_nil]
      refine DW.tk 6 [1] rfl (ov_bits (.inl rfl) rfl rfl e32) ?_
      refine DW.all2 8 18 (by kernel_rfl) ?_ ?_
      · refine DO.call [1] [1] rfl (oc_clo (by kernel_rfl) rfl rfl) rfl rfl rfl rfl (word_ok (l := l) (i := 2) (by omega) hl) (by rintro _ _ ⟨rfl, rfl⟩; exact ⟨rfl, rfl⟩) rfl ?_
        rintro _ _ ⟨rfl, rfl⟩
        simp only [putBack, List.set_cons_succ, List.set_cons_zero, List.append_nil]
        refine DW.tk 9 [1] rfl (OpV.eq (ov_shr rfl rfl (by decide)) (congrArg (Value.int .i64) e35)) ?_
        refine DW.all2 11 18 (by kernel_rfl) ?_ ?_
        · refine DO.call [1] [1] rfl (oc_clo (by kernel_rfl) rfl rfl) rfl rfl rfl rfl (word_ok (l := l) (i := 2) (by omega) hl) (by rintro _ _ ⟨rfl, rfl⟩; exact ⟨rfl, rfl⟩) rfl ?_
          rintro _ _ ⟨rfl, rfl⟩
          simp only [putBack, List.set_cons_succ, List.set_cons_zero, List.append_nil]
          refine DW.tk 12 [1] rfl (ov_bits (.inl rfl) rfl rfl (mask14 _)) ?_
          refine DW.all2 16 18 (by kernel_rfl) ?_ ?_
          · refine DO.call [1] [] rfl (oc_fn cf31 rfl) rfl rfl rfl rfl (Clone_ok (l := (l.drop 6).take (n - 6)) (by simp; omega)) (by rintro _ _ ⟨rfl, rfl⟩; exact ⟨rfl, rfl⟩) rfl ?_
            rintro _ _ ⟨rfl, rfl⟩
            simp only [putBack, List.append_nil]
            refine DW.tk 17 [1] rfl (ov_build zc110 pl110 rfl (.c rfl (.one rfl) rfl (.h (.n)) (.c rfl (.one rfl) rfl (.t (.h (.n))) (.c rfl (.one rfl) rfl (.t (.t (.h (.n)))) (.c rfl (.one rfl) rfl (.t (.t (.t (.h (.n))))) (.c rfl (.one rfl) rfl (.t (.t (.t (.t (.h (.n)))))) (.n))))))) ?_
            refine DW.all1 18 (by kernel_rfl) ?_
            refine DO.opBA [1] rfl (ob_alloc zc110 (fun _ => .c (.c (.c (.n))))) rfl rfl (fun _ => rfl) (fun _ => rfl) rfl (fun b7 => ?_)
            refine DW.all1 19 (by kernel_rfl) ?_
            refine DO.opU [1] rfl (ou_storeW ta110 rfl rfl .agg rfl rfl (.h (.h (.h (.h (.h (.n)))))) (.t (.t (.t (.h))))) rfl rfl rfl rfl ?_
            refine DW.done (by kernel_rfl) ?_
            refine KW.thenN ?_
            refine CW.seq ?_
            refine CW.region ?_
            refine LW.v (ov_loadAR 3 ta110 rfl rfl (.h (.h (.h (.h (.h (.n))))))) ?_
            refine LW.v (ov_move rfl) ?_
            refine LW.opU (ou_storeW ta110 rfl rfl .agg rfl rfl (.h (.h (.h (.h (.h (.n)))))) (.t (.t (.h)))) rfl ?_
            refine LW.v (ov_assign rfl) ?_
            refine LW.v (ov_assign rfl) ?_
            refine LW.nil ?_
            refine KW.thenN ?_
            refine CW.ret ?_
            exact KW.retF (.cons (ResV.cellA 2 ta110 rfl rfl (.h (.h (.h (.h (.h .n)))))) (.cons (.tmp rfl) (.cons (.tmp rfl) .nil))) [] rfl rfl ⟨by rw [en, ec]; rfl, rfl⟩
          · refine DO.opBA [1] rfl (ob_alloc zc110 (fun _ => .c (.c (.c (.n))))) rfl rfl (fun _ => rfl) (fun _ => rfl) rfl (fun b7 => ?_)
            refine DW.all1 16 (by kernel_rfl) ?_
            refine DO.call [1] [] rfl (oc_fn cf31 rfl) rfl rfl rfl rfl (Clone_ok (l := (l.drop 6).take (n - 6)) (by simp; omega)) (by rintro _ _ ⟨rfl, rfl⟩; exact ⟨rfl, rfl⟩) rfl ?_
            rintro _ _ ⟨rfl, rfl⟩
            simp only [putBack, List.append_nil]
            refine DW.tk 17 [1] rfl (ov_build zc110 pl110 rfl (.c rfl (.one rfl) rfl (.h (.n)) (.c rfl (.one rfl) rfl (.t (.h (.n))) (.c rfl (.one rfl) rfl (.t (.t (.h (.n)))) (.c rfl (.one rfl) rfl (.t (.t (.t (.h (.n))))) (.c rfl (.one rfl) rfl (.t (.t (.t (.t (.h (.n)))))) (.n))))))) ?_
            refine DW.all1 19 (by kernel_rfl) ?_
            refine DO.opU [1] rfl (ou_storeW ta110 rfl rfl .agg rfl rfl (.h (.h (.h (.h (.h (.n)))))) (.t (.t (.t (.h))))) rfl rfl rfl rfl ?_
            refine DW.done (by kernel_rfl) ?_
            refine KW.thenN ?_
            refine CW.seq ?_
            refine CW.region ?_
            refine LW.v (ov_loadAR 3 ta110 rfl rfl (.h (.h (.h (.h (.h (.n))))))) ?_
            refine LW.v (ov_move rfl) ?_
            refine LW.opU (ou_storeW ta110 rfl rfl .agg rfl rfl (.h (.h (.h (.h (.h (.n)))))) (.t (.t (.h)))) rfl ?_
            refine LW.v (ov_assign rfl) ?_
            refine LW.v (ov_assign rfl) ?_
            refine LW.nil ?_
            refine KW.thenN ?_
            refine CW.ret ?_
            exact KW.retF (.cons (ResV.cellA 2 ta110 rfl rfl (.h (.h (.h (.h (.h .n)))))) (.cons (.tmp rfl) (.cons (.tmp rfl) .nil))) [] rfl rfl ⟨by rw [en, ec]; rfl, rfl⟩
        · refine DO.opBA [1] rfl (ob_alloc zc110 (fun _ => .c (.c (.c (.n))))) rfl rfl (fun _ => rfl) (fun _ => rfl) rfl (fun b7 => ?_)
          refine DW.all1 11 (by kernel_rfl) ?_
          refine DO.call [1] [1] rfl (oc_clo (by kernel_rfl) rfl rfl) rfl rfl rfl rfl (word_ok (l := l) (i := 2) (by omega) hl) (by rintro _ _ ⟨rfl, rfl⟩; exact ⟨rfl, rfl⟩) rfl ?_
          rintro _ _ ⟨rfl, rfl⟩
          simp only [putBack, List.set_cons_succ, List.set_cons_zero, List.append_nil]
          refine DW.tk 12 [1] rfl (ov_bits (.inl rfl) rfl rfl (mask14 _)) ?_
          refine DW.all1 16 (by kernel_rfl) ?_
          refine DO.call [1] [] rfl (oc_fn cf31 rfl) rfl rfl rfl rfl (Clone_ok (l := (l.drop 6).take (n - 6)) (by simp; omega)) (by rintro _ _ ⟨rfl, rfl⟩; exact ⟨rfl, rfl⟩) rfl ?_
          rintro _ _ ⟨rfl, rfl⟩
          simp only [putBack, List.append_nil]
          refine DW.tk 17 [1] rfl (ov_build zc110 pl110 rfl (.c rfl (.one rfl) rfl (.h (.n)) (.c rfl (.one rfl) rfl (.t (.h (.n))) (.c rfl (.one rfl) rfl (.t (.t (.h (.n)))) (.c rfl (.one rfl) rfl (.t (.t (.t (.h (.n))))) (.c rfl (.one rfl) rfl (.t (.t (.t (.t (.h (.n)))))) (.n))))))) ?_
          refine DW.all1 19 (by kernel_rfl) ?_
          refine DO.opU [1] rfl (ou_storeW ta110 rfl rfl .agg rfl rfl (.h (.h (.h (.h (.h (.n)))))) (.t (.t (.t (.h))))) rfl rfl rfl rfl ?_
          refine DW.done (by kernel_rfl) ?_
          refine KW.thenN ?_
          refine CW.seq ?_
          refine CW.region ?_
          refine LW.v (ov_loadAR 3 ta110 rfl rfl (.h (.h (.h (.h (.h (.n))))))) ?_
          refine LW.v (ov_move rfl) ?_
          refine LW.opU (ou_storeW ta110 rfl rfl .agg rfl rfl (.h (.h (.h (.h (.h (.n)))))) (.t (.t (.h)))) rfl ?_
          refine LW.v (ov_assign rfl) ?_
          refine LW.v (ov_assign rfl) ?_
          refine LW.nil ?_
          refine KW.thenN ?_
          refine CW.ret ?_
          exact KW.retF (.cons (ResV.cellA 2 ta110 rfl rfl (.h (.h (.h (.h (.h .n)))))) (.cons (.tmp rfl) (.cons (.tmp rfl) .nil))) [] rfl rfl ⟨by rw [en, ec]; rfl, rfl⟩
      · refine DO.opBA [1] rfl (ob_alloc zc110 (fun _ => .c (.c (.c (.n))))) rfl rfl (fun _ => rfl) (fun _ => rfl) rfl (fun b7 => ?_)
        refine DW.all1 8 (by kernel_rfl) ?_
        refine DO.call [1] [1] rfl (oc_clo (by kernel_rfl) rfl rfl) rfl rfl rfl rfl (word_ok (l := l) (i := 2) (by omega) hl) (by rintro _ _ ⟨rfl, rfl⟩; exact ⟨rfl, rfl⟩) rfl ?_
        rintro _ _ ⟨rfl, rfl⟩
        simp only [putBack, List.set_cons_succ, List.set_cons_zero, List.append_nil]
        refine DW.tk 9 [1] rfl (OpV.eq (ov_shr rfl rfl (by decide)) (congrArg (Value.int .i64) e35)) ?_
        refine DW.all1 11 (by kernel_rfl) ?_
        refine DO.call [1] [1] rfl (oc_clo (by kernel_rfl) rfl rfl) rfl rfl rfl rfl (word_ok (l := l) (i := 2) (by omega) hl) (by rintro _ _ ⟨rfl, rfl⟩; exact ⟨rfl, rfl⟩) rfl ?_
        rintro _ _ ⟨rfl, rfl⟩
        simp only [putBack, List.set_cons_succ, List.set_cons_zero, List.append_nil]
        refine DW.tk 12 [1] rfl (ov_bits (.inl rfl) rfl rfl (mask14 _)) ?_
        refine DW.all1 16 (by kernel_rfl) ?_
        refine DO.call [1] [] rfl (oc_fn cf31 rfl) rfl rfl rfl rfl (Clone_ok (l := (l.drop 6).take (n - 6)) (by simp; omega)) (by rintro _ _ ⟨rfl, rfl⟩; exact ⟨rfl, rfl⟩) rfl ?_
        rintro _ _ ⟨rfl, rfl⟩
        simp only [putBack, List.append_nil]
        refine DW.tk 17 [1] rfl (ov_build zc110 pl110 rfl (.c rfl (.one rfl) rfl (.h (.n)) (.c rfl (.one rfl) rfl (.t (.h (.n))) (.c rfl (.one rfl) rfl (.t (.t (.h (.n)))) (.c rfl (.one rfl) rfl (.t (.t (.t (.h (.n))))) (.c rfl (.one rfl) rfl (.t (.t (.t (.t (.h (.n)))))) (.n))))))) ?_
        refine DW.all1 19 (by kernel_rfl) ?_
        refine DO.opU [1] rfl (ou_storeW ta110 rfl rfl .agg rfl rfl (.h (.h (.h (.h (.h (.n)))))) (.t (.t (.t (.h))))) rfl rfl rfl rfl ?_
        refine DW.done (by kernel_rfl) ?_
        refine KW.thenN ?_
        refine CW.seq ?_
        refine CW.region ?_
        refine LW.v (ov_loadAR 3 ta110 rfl rfl (.h (.h (.h (.h (.h (.n))))))) ?_
        refine LW.v (ov_move rfl) ?_
        refine LW.opU (ou_storeW ta110 rfl rfl .agg rfl rfl (.h (.h (.h (.h (.h (.n)))))) (.t (.t (.h)))) rfl ?_
        refine LW.v (ov_assign rfl) ?_
        refine LW.v (ov_assign rfl) ?_
        refine LW.nil ?_
        refine KW.thenN ?_
        refine CW.ret ?_
        exact KW.retF (.cons (ResV.cellA 2 ta110 rfl rfl (.h (.h (.h (.h (.h .n)))))) (.cons (.tmp rfl) (.cons (.tmp rfl) .nil))) [] rfl rfl ⟨by rw [en, ec]; rfl, rfl⟩
    · refine DO.opBA [1] rfl (ob_alloc zc110 (fun _ => .c (.c (.c (.n))))) rfl rfl (fun _ => rfl) (fun _ => rfl) rfl (fun b7 => ?_)
      refine DW.all1 5 (by kernel_rfl) ?_
      refine DO.call [1] [1] rfl (oc_clo (by kernel_rfl) rfl rfl) rfl rfl rfl rfl (word_ok (l := l) (i := 0) (by omega) hl) (by rintro _ _ ⟨rfl, rfl⟩; exact ⟨rfl, rfl⟩) rfl ?_
      rintro _ _ ⟨rfl, rfl⟩
      simp only [putBack, List.set_cons_succ, List.set_cons_zero, List.append_nil]
      refine DW.tk 6 [1] rfl (ov_bits (.inl rfl) rfl rfl e32) ?_
      refine DW.all1 8 (by kernel_rfl) ?_
      refine DO.call [1] [1] rfl (oc_clo (by kernel_rfl) rfl rfl) rfl rfl rfl rfl (word_ok (l := l) (i := 2) (by omega) hl) (by rintro _ _ ⟨rfl, rfl⟩; exact ⟨rfl, rfl⟩) rfl ?_
      rintro _ _ ⟨rfl, rfl⟩
      simp only [putBack, List.set_cons_succ, List.set_cons_zero, List.append_nil]
      refine DW.tk 9 [1] rfl (OpV.eq (ov_shr rfl rfl (by decide)) (congrArg (Value.int .i64) e35)) ?_
      refine DW.all1 11 (by kernel_rfl) ?_
      refine DO.call [1] [1] rfl (oc_clo (by kernel_rfl) rfl rfl) rfl rfl rfl rfl (word_ok (l := l) (i := 2) (by omega) hl) (by rintro _ _ ⟨rfl, rfl⟩; exact ⟨rfl, rfl⟩) rfl ?_
      rintro _ _ ⟨rfl, rfl⟩
      simp only [putBack, List.set_cons_succ, List.set_cons_zero, List.append_nil]
      refine DW.tk 12 [1] rfl (ov_bits (.inl rfl) rfl rfl (mask14 _)) ?_
      refine DW.all1 16 (by kernel_rfl) ?_
      refine DO.call [1] [] rfl (oc_fn cf31 rfl) rfl rfl rfl rfl (Clone_ok (l := (l.drop 6).take (n - 6)) (by simp; omega)) (by rintro _ _ ⟨rfl, rfl⟩; exact ⟨rfl, rfl⟩) rfl ?_
      rintro _ _ ⟨rfl, rfl⟩
      simp only [putBack, List.append_nil]
      refine DW.tk 17 [1] rfl (ov_build zc110 pl110 rfl (.c rfl (.one rfl) rfl (.h (.n)) (.c rfl (.one rfl) rfl (.t (.h (.n))) (.c rfl (.one rfl) rfl (.t (.t (.h (.n)))) (.c rfl (.one rfl) rfl (.t (.t (.t (.h (.n))))) (.c rfl (.one rfl) rfl (.t (.t (.t (.t (.h (.n)))))) (.n))))))) ?_
      refine DW.all1 19 (by kernel_rfl) ?_
      refine DO.opU [1] rfl (ou_storeW ta110 rfl rfl .agg rfl rfl (.h (.h (.h (.h (.h (.n)))))) (.t (.t (.t (.h))))) rfl rfl rfl rfl ?_
      refine DW.done (by kernel_rfl) ?_
      refine KW.thenN ?_
      refine CW.seq ?_
      refine CW.region ?_
      refine LW.v (ov_loadAR 3 ta110 rfl rfl (.h (.h (.h (.h (.h (.n))))))) ?_
      refine LW.v (ov_move rfl) ?_
      refine LW.opU (ou_storeW ta110 rfl rfl .agg rfl rfl (.h (.h (.h (.h (.h (.n)))))) (.t (.t (.h)))) rfl ?_
      refine LW.v (ov_assign rfl) ?_
      refine LW.v (ov_assign rfl) ?_
      refine LW.nil ?_
      refine KW.thenN ?_
      refine CW.ret ?_
      exact KW.retF (.cons (ResV.cellA 2 ta110 rfl rfl (.h (.h (.h (.h (.h .n)))))) (.cons (.tmp rfl) (.cons (.tmp rfl) .nil))) [] rfl rfl ⟨by rw [en, ec]; rfl, rfl⟩
  · refine DO.opBA [1] rfl (ob_alloc zc110 (fun _ => .c (.c (.c (.n))))) rfl rfl (fun _ => rfl) (fun _ => rfl) rfl (fun b7 => ?_)
    refine DW.all1 1 (by kernel_rfl) ?_
    refine DO.call [1] [1] rfl (oc_clo (by kernel_rfl) rfl rfl) rfl rfl rfl rfl (word_ok (l := l) (i := 0) (by omega) hl) (by rintro _ _ ⟨rfl, rfl⟩; exact ⟨rfl, rfl⟩) rfl ?_
    rintro _ _ ⟨rfl, rfl⟩
    simp only [putBack, List.set_cons_succ, List.set_cons_zero, List.append_nil]
    refine DW.tk 2 [1] rfl (ov_bits (.inl rfl) rfl rfl e28) ?_
    refine DW.tk 3 [1] rfl (ov_neq rfl rfl) ?_
    refine DW.all1 5 (by kernel_rfl) ?_
    refine DO.call [1] [1] rfl (oc_clo (by kernel_rfl) rfl rfl) rfl rfl rfl rfl (word_ok (l := l) (i := 0) (by omega) hl) (by rintro _ _ ⟨rfl, rfl⟩; exact ⟨rfl, rfl⟩) rfl ?_
    rintro _ _ ⟨rfl, rfl⟩
    simp only [putBack, List.set_cons_succ, List.set_cons_zero, List.append_nil]
    refine DW.tk 6 [1] rfl (ov_bits (.inl rfl) rfl rfl e32) ?_
    refine DW.all1 8 (by kernel_rfl) ?_
    refine DO.call [1] [1] rfl (oc_clo (by kernel_rfl) rfl rfl) rfl rfl rfl rfl (word_ok (l := l) (i := 2) (by omega) hl) (by rintro _ _ ⟨rfl, rfl⟩; exact ⟨rfl, rfl⟩) rfl ?_
    rintro _ _ ⟨rfl, rfl⟩
    simp only [putBack, List.set_cons_succ, List.set_cons_zero, List.append_nil]
    refine DW.tk 9 [1] rfl (OpV.eq (ov_shr rfl rfl (by decide)) (congrArg (Value.int .i64) e35)) ?_
    refine DW.all1 11 (by kernel_rfl) ?_
    refine DO.call [1] [1] rfl (oc_clo (by kernel_rfl) rfl rfl) rfl rfl rfl rfl (word_ok (l := l) (i := 2) (by omega) hl) (by rintro _ _ ⟨rfl, rfl⟩; exact ⟨rfl, rfl⟩) rfl ?_
    rintro _ _ ⟨rfl, rfl⟩
    simp only [putBack, List.set_cons_succ, List.set_cons_zero, List.append_nil]
    refine DW.tk 12 [1] rfl (ov_bits (.inl rfl) rfl rfl (mask14 _)) ?_
    refine DW.all1 16 (by kernel_rfl) ?_
    refine DO.call [1] [] rfl (oc_fn cf31 rfl) rfl rfl rfl rfl (Clone_ok (l := (l.drop 6).take (n - 6)) (by simp; omega)) (by rintro _ _ ⟨rfl, rfl⟩; exact ⟨rfl, rfl⟩) rfl ?_
    rintro _ _ ⟨rfl, rfl⟩
    simp only [putBack, List.append_nil]
    refine DW.tk 17 [1] rfl (ov_build zc110 pl110 rfl (.c rfl (.one rfl) rfl (.h (.n)) (.c rfl (.one rfl) rfl (.t (.h (.n))) (.c rfl (.one rfl) rfl (.t (.t (.h (.n)))) (.c rfl (.one rfl) rfl (.t (.t (.t (.h (.n))))) (.c rfl (.one rfl) rfl (.t (.t (.t (.t (.h (.n)))))) (.n))))))) ?_
    refine DW.all1 19 (by kernel_rfl) ?_
    refine DO.opU [1] rfl (ou_storeW ta110 rfl rfl .agg rfl rfl (.h (.h (.h (.h (.h (.n)))))) (.t (.t (.t (.h))))) rfl rfl rfl rfl ?_
    refine DW.done (by kernel_rfl) ?_
    refine KW.thenN ?_
    refine CW.seq ?_
    refine CW.region ?_
    refine LW.v (ov_loadAR 3 ta110 rfl rfl (.h (.h (.h (.h (.h (.n))))))) ?_
    refine LW.v (ov_move rfl) ?_
    refine LW.opU (ou_storeW ta110 rfl rfl .agg rfl rfl (.h (.h (.h (.h (.h (.n)))))) (.t (.t (.h)))) rfl ?_
    refine LW.v (ov_assign rfl) ?_
    refine LW.v (ov_assign rfl) ?_
    refine LW.nil ?_
    refine KW.thenN ?_
    refine CW.ret ?_
    exact KW.retF (.cons (ResV.cellA 2 ta110 rfl rfl (.h (.h (.h (.h (.h .n)))))) (.cons (.tmp rfl) (.cons (.tmp rfl) .nil))) [] rfl rfl ⟨by rw [en, ec]; rfl, rfl⟩
end Sx
end Go.Proofs.Ytdgphamhpjnmpaa

/- Package packet: Get, Idle. -/
namespace Go.Proofs.Ytdgphamhpjnmpaa
namespace Sx

def getK (l : List UInt8) : Pk × Int := if (takeK l).2.2 ≠ 0 ∨ (takeK l).2.1 ≠ l.length then (pk0, 6) else ((takeK l).1, 0)
theorem Get_ok {l : List UInt8} (hl : l.length ≤ 1000000000) : Fn Try.prog 66 #[S l] [] (Ret fun v Q => v = .tuple #[pkv (getK l).1, .int .i64 (getK l).2] ∧ Q = []) := by
  refine Fn.of (args := _) Try.func66 rfl Try.ntmps66 rfl ?_
  intro w0 g0
  refine CW.seq ?_
  refine CW.region ?_
  refine LW.opBA (ob_alloc zc110 (fun _ => .c (.n))) rfl rfl (fun b2 => ?_)
  refine LW.v (ov_assign rfl) ?_
  refine LW.nil ?_
  refine KW.thenN ?_
  refine CW.seq ?_
  refine CW.region ?_
  refine LW.v (ov_move rfl) ?_
  refine LW.call [] (oc_fn cf57 rfl) rfl rfl rfl rfl (Take_ok hl) ?_
  rintro _ _ ⟨rfl, rfl⟩
  simp only [putBack, List.append_nil]
  refine LW.v (ov_move rfl) ?_
  refine LW.v (ov_extract rfl rfl) ?_
  refine LW.v (ov_extract rfl rfl) ?_
  refine LW.v (ov_extract rfl rfl) ?_
  refine LW.opBA (ob_alloc zc110 (fun _ => .c (.c (.n)))) rfl rfl (fun b4 => ?_)
  refine LW.opU (ou_storeW ta110 rfl rfl .agg rfl rfl (.h (.h (.h (.h (.h (.n)))))) (.t (.t (.h)))) rfl ?_
  refine LW.v (ov_assign rfl) ?_
  refine LW.v (ov_assign rfl) ?_
  refine LW.nil ?_
  refine KW.thenN ?_
  have hg : getK l = if (takeK l).2.2 ≠ 0 ∨ (takeK l).2.1 ≠ l.length then (pk0, 6) else ((takeK l).1, 0) := rfl
  generalize takeK l = r at hg ⊢
  obtain ⟨p, n, e⟩ := r
  simp only at hg ⊢
  refine CW.seq ?_
  refine CW.seq ?_
  refine CW.region ?_
  refine LW.v (ov_move rfl) ?_
  refine LW.v (ov_neq rfl rfl) ?_
  refine LW.v (ov_move rfl) ?_
  refine KW.splitD 15 rfl (fun h => ?_) (fun h => ?_)
  · refine LW.skip rfl rfl ?_
    refine LW.skip rfl rfl ?_
    refine LW.skip rfl rfl ?_
    refine LW.skip rfl rfl ?_
    first | refine LW.v (ov_pickT rfl rfl) ?_ | refine LW.v (ov_pickF rfl rfl) ?_ | refine LW.v (ov_pick rfl rfl rfl) ?_
    refine LW.nil ?_
    refine KW.thenN ?_
    refine CW.condT rfl rfl ?_
    refine CW.seq ?_
    refine CW.region ?_
    refine LW.v (ov_build zc110 pl110 rfl (.n)) ?_
    refine LW.opU (ou_storeW ta110 rfl rfl .agg rfl rfl (.h (.h (.h (.h (.h (.n)))))) (.t (.h))) rfl ?_
    refine LW.v (ov_assign rfl) ?_
    refine LW.nil ?_
    refine KW.thenN ?_
    refine CW.ret ?_
    refine KW.thenR ?_
    rw [hg, if_pos (.inl h)]
    exact KW.retF (.cons (ResV.cellA 1 ta110 rfl rfl (.h (.h (.h (.h (.h .n)))))) (.cons (.tmp rfl) .nil)) [] rfl rfl ⟨rfl, rfl⟩
  · refine LW.v (ov_move rfl) ?_
    refine LW.v (ov_move rfl) ?_
    refine LW.v (ov_lenS un9 rfl) ?_
    refine LW.v (ov_neq rfl rfl) ?_
    first | refine LW.v (ov_pickT rfl rfl) ?_ | refine LW.v (ov_pickF rfl rfl) ?_ | refine LW.v (ov_pick rfl rfl rfl) ?_
    refine LW.nil ?_
    refine KW.thenN ?_
    refine CW.condD (by rfl) (fun h2 => ?_) (fun h2 => ?_)
    · refine CW.seq ?_
      refine CW.region ?_
      refine LW.v (ov_build zc110 pl110 rfl (.n)) ?_
      refine LW.opU (ou_storeW ta110 rfl rfl .agg rfl rfl (.h (.h (.h (.h (.h (.n)))))) (.t (.h))) rfl ?_
      refine LW.v (ov_assign rfl) ?_
      refine LW.nil ?_
      refine KW.thenN ?_
      refine CW.ret ?_
      refine KW.thenR ?_
      rw [hg, if_pos (.inr (by omega))]
      exact KW.retF (.cons (ResV.cellA 1 ta110 rfl rfl (.h (.h (.h (.h (.h .n)))))) (.cons (.tmp rfl) .nil)) [] rfl rfl ⟨rfl, rfl⟩
    · refine CW.skip ?_
      refine KW.thenN ?_
      refine CW.seq ?_
      refine CW.region ?_
      refine LW.v (ov_loadAR 2 ta110 rfl rfl (.h (.h (.h (.h (.h (.n))))))) ?_
      refine LW.opU (ou_storeW ta110 rfl rfl .agg rfl rfl (.h (.h (.h (.h (.h (.n)))))) (.t (.h))) rfl ?_
      refine LW.v (ov_assign rfl) ?_
      refine LW.nil ?_
      refine KW.thenN ?_
      refine CW.ret ?_
      rw [hg, if_neg (by omega)]
      exact KW.retF (.cons (ResV.cellA 1 ta110 rfl rfl (.h (.h (.h (.h (.h .n)))))) (.cons (.tmp rfl) .nil)) [] rfl rfl ⟨rfl, rfl⟩

def idleP (n : Nat) : Pk := ⟨false, 2047, 3, 0, List.replicate (n - 6) 0⟩
theorem repl_bv (n : Nat) : (List.replicate n [Value.int .u8 0]).flatten = (List.replicate n (0 : UInt8)).map bv := by
  induction n with
  | zero => rfl
  | succ n ih => rw [List.replicate_succ, List.flatten_cons, ih, List.replicate_succ]; rfl
theorem Idle_ok {n : Nat} (h1 : 7 ≤ n) (h2 : n ≤ 1030) : Fn Try.prog 80 #[.int .i64 n] [] (Ret fun v Q => v = .tuple #[S (enc (idleP n)), .int .i64 0] ∧ Q = []) := by
  obtain ⟨z, hz⟩ : ∃ z, z = List.replicate (n - 6) (0 : UInt8) := ⟨_, rfl⟩
  have hzl : n - 6 = z.length := by rw [hz]; simp
  have hzb : (List.replicate (n - 6) [Value.int .u8 0]).flatten = z.map bv := by rw [repl_bv, hz]
  have hid : idleP n = ⟨false, 2047, 3, 0, z⟩ := by rw [hz]; rfl
  rw [hid]
  clear hid hz
  have hok : Pk.ok ⟨false, 2047, 3, 0, z⟩ := ⟨by simp, by simp, by simp, by simp, by simp, by simp, by simp; omega, by simp; omega⟩
  have e5 : decide ((n : Int) ≤ 6) = false := decide_eq_false (by omega)
  have e8 : decide ((1030 : Int) < (n : Int)) = false := decide_eq_false (by omega)
  have e11 : ((n : Int) - 6) = ((n - 6 : Nat) : Int) := by omega
  refine Fn.of (args := _) Try.func80 rfl Try.ntmps80 rfl ?_
  intro w0 g0
  refine CW.seq ?_
  refine CW.region ?_
  refine LW.v (ov_assign rfl) ?_
  refine LW.v (ov_assign rfl) ?_
  refine LW.nil ?_
  refine KW.thenN ?_
  refine CW.seq ?_
  refine CW.seq ?_
  refine CW.region ?_
  refine LW.v (ov_move rfl) ?_
  refine LW.v (OpV.eq (ov_leq rfl rfl) (congrArg Value.bool e5)) ?_
  refine LW.v (ov_move rfl) ?_
  refine LW.v (ov_move rfl) ?_
  refine LW.v (OpV.eq (ov_gtr rfl rfl) (congrArg Value.bool e8)) ?_
  first | refine LW.v (ov_pickT rfl rfl) ?_ | refine LW.v (ov_pickF rfl rfl) ?_ | refine LW.v (ov_pick rfl rfl rfl) ?_
  refine LW.nil ?_
  refine KW.thenN ?_
  refine CW.condF rfl rfl ?_
  refine CW.skip ?_
  refine KW.thenN ?_
  refine CW.seq ?_
  refine CW.region ?_
  refine LW.v (ov_move rfl) ?_
  refine LW.v (OpV.eq (ov_sub rfl rfl (by omega)) (congrArg (Value.int .i64) e11)) ?_
  refine LW.opBA (ob_make so107 zc5 rfl rfl rfl (by omega) (by omega) (fun _ => (.c (.n)))) rfl rfl (fun b12 => ?_)
  refine LW.v (ov_b2sR (l := z) 1 so107 un9 un5 rfl hzl rfl (fun j v hj => by rw [hzb, Nat.zero_add]; exact hj)) ?_
  refine LW.v (ov_build zc110 pl110 rfl (.c rfl (.one rfl) rfl (.t (.h (.n))) (.c rfl (.one rfl) rfl (.t (.t (.h (.n)))) (.c rfl (.one rfl) rfl (.t (.t (.t (.t (.h (.n)))))) (.n))))) ?_
  refine KW.re 14 rfl (v' := pkv ⟨false, 2047, 3, 0, z⟩) (by with_reducible rfl) ?_
  refine LW.call [] (oc_fn cf69 rfl) rfl rfl rfl rfl (encoded_ok hok) ?_
  rintro _ _ ⟨rfl, rfl⟩
  simp only [putBack, List.append_nil]
  refine LW.v (ov_assign rfl) ?_
  refine LW.v (ov_assign rfl) ?_
  refine LW.nil ?_
  refine KW.thenN ?_
  refine CW.ret ?_
  exact KW.retF (.cons (.tmp rfl) (.cons (.tmp rfl) .nil)) [] rfl rfl ⟨rfl, rfl⟩
end Sx
end Go.Proofs.Ytdgphamhpjnmpaa

