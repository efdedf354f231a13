/- Closed facts on the types and functions of this translation (by a program of mine). -/
import Derived.Test.YtkofbanncacamaaSxG
import Derived.KernelRfl
import Derived.Test.YtkofbanncacamaaProg
namespace Go.Proofs.Ytkofbanncacamaa
namespace Sx
open Go
theorem mixed : Try.prog.follows .mixedOrders = true := by kernel_rfl
theorem ta1 : tyAgg Try.prog 1 = some (false, 1) := by kernel_rfl
theorem zc1 : zeroCells' Try.prog 1 = some [.nilFunc] := by kernel_rfl
theorem zo1 : zeroOf Try.prog 1 = some (.nilFunc) := by kernel_rfl
theorem us1 : (Try.prog.underlying 1).isSome = true := by kernel_rfl
theorem ta2 : tyAgg Try.prog 2 = some (false, 1) := by kernel_rfl
theorem zc2 : zeroCells' Try.prog 2 = some [.int .i64 0] := by kernel_rfl
theorem zo2 : zeroOf Try.prog 2 = some (.int .i64 0) := by kernel_rfl
theorem un2 : Try.prog.underlying 2 = some (.int .i64) := by kernel_rfl
theorem us2 : (Try.prog.underlying 2).isSome = true := by kernel_rfl
theorem ta3 : tyAgg Try.prog 3 = some (false, 1) := by kernel_rfl
theorem zc3 : zeroCells' Try.prog 3 = some [.int .i64 0] := by kernel_rfl
theorem zo3 : zeroOf Try.prog 3 = some (.int .i64 0) := by kernel_rfl
theorem un3 : Try.prog.underlying 3 = some (.int .i64) := by kernel_rfl
theorem us3 : (Try.prog.underlying 3).isSome = true := by kernel_rfl
theorem ta4 : tyAgg Try.prog 4 = some (false, 1) := by kernel_rfl
theorem zc4 : zeroCells' Try.prog 4 = some [.bool false] := by kernel_rfl
theorem zo4 : zeroOf Try.prog 4 = some (.bool false) := by kernel_rfl
theorem us4 : (Try.prog.underlying 4).isSome = true := by kernel_rfl
theorem ta5 : tyAgg Try.prog 5 = some (false, 1) := by kernel_rfl
theorem zc5 : zeroCells' Try.prog 5 = some [.int .u8 0] := by kernel_rfl
theorem zo5 : zeroOf Try.prog 5 = some (.int .u8 0) := by kernel_rfl
theorem un5 : Try.prog.underlying 5 = some (.int .u8) := by kernel_rfl
theorem co5 : Try.prog.cellsOf 5 = 1 := by kernel_rfl
theorem us5 : (Try.prog.underlying 5).isSome = true := by kernel_rfl
theorem ta6 : tyAgg Try.prog 6 = some (false, 1) := by kernel_rfl
theorem zc6 : zeroCells' Try.prog 6 = some [.int .u8 0] := by kernel_rfl
theorem zo6 : zeroOf Try.prog 6 = some (.int .u8 0) := by kernel_rfl
theorem un6 : Try.prog.underlying 6 = some (.int .u8) := by kernel_rfl
theorem co6 : Try.prog.cellsOf 6 = 1 := by kernel_rfl
theorem us6 : (Try.prog.underlying 6).isSome = true := by kernel_rfl
theorem ta7 : tyAgg Try.prog 7 = some (true, 4) := by kernel_rfl
theorem zc7 : zeroCells' Try.prog 7 = some [.int .i64 0, .int .i64 0, .bool false, .int .u8 0] := by kernel_rfl
theorem zo7 : zeroOf Try.prog 7 = some (.agg #[.int .i64 0, .int .i64 0, .bool false, .int .u8 0]) := by kernel_rfl
theorem pl7 : placesOf Try.prog 7 = some [(0, 1), (1, 1), (2, 1), (3, 1)] := by kernel_rfl
theorem fo7_0 : fieldOff Try.prog 7 0 = some 0 := by kernel_rfl
theorem fo7_1 : fieldOff Try.prog 7 1 = some 1 := by kernel_rfl
theorem fo7_2 : fieldOff Try.prog 7 2 = some 2 := by kernel_rfl
theorem fo7_3 : fieldOff Try.prog 7 3 = some 3 := by kernel_rfl
theorem us7 : (Try.prog.underlying 7).isSome = true := by kernel_rfl
theorem ta8 : tyAgg Try.prog 8 = some (true, 4) := by kernel_rfl
theorem zc8 : zeroCells' Try.prog 8 = some [.int .i64 0, .int .i64 0, .bool false, .int .u8 0] := by kernel_rfl
theorem zo8 : zeroOf Try.prog 8 = some (.agg #[.int .i64 0, .int .i64 0, .bool false, .int .u8 0]) := by kernel_rfl
theorem pl8 : placesOf Try.prog 8 = some [(0, 1), (1, 1), (2, 1), (3, 1)] := by kernel_rfl
theorem fo8_0 : fieldOff Try.prog 8 0 = some 0 := by kernel_rfl
theorem fo8_1 : fieldOff Try.prog 8 1 = some 1 := by kernel_rfl
theorem fo8_2 : fieldOff Try.prog 8 2 = some 2 := by kernel_rfl
theorem fo8_3 : fieldOff Try.prog 8 3 = some 3 := by kernel_rfl
theorem us8 : (Try.prog.underlying 8).isSome = true := by kernel_rfl
theorem ta9 : tyAgg Try.prog 9 = some (false, 1) := by kernel_rfl
theorem zc9 : zeroCells' Try.prog 9 = some [S []] := by kernel_rfl
theorem zo9 : zeroOf Try.prog 9 = some (S []) := by kernel_rfl
theorem un9 : Try.prog.underlying 9 = some .string := by kernel_rfl
theorem us9 : (Try.prog.underlying 9).isSome = true := by kernel_rfl
theorem ta10 : tyAgg Try.prog 10 = some (false, 1) := by kernel_rfl
theorem zc10 : zeroCells' Try.prog 10 = some [S []] := by kernel_rfl
theorem zo10 : zeroOf Try.prog 10 = some (S []) := by kernel_rfl
theorem un10 : Try.prog.underlying 10 = some .string := by kernel_rfl
theorem us10 : (Try.prog.underlying 10).isSome = true := by kernel_rfl
theorem ta11 : tyAgg Try.prog 11 = some (false, 1) := by kernel_rfl
theorem zc11 : zeroCells' Try.prog 11 = some [S []] := by kernel_rfl
theorem zo11 : zeroOf Try.prog 11 = some (S []) := by kernel_rfl
theorem un11 : Try.prog.underlying 11 = some .string := by kernel_rfl
theorem us11 : (Try.prog.underlying 11).isSome = true := by kernel_rfl
theorem ta12 : tyAgg Try.prog 12 = some (false, 1) := by kernel_rfl
theorem zc12 : zeroCells' Try.prog 12 = some [.int .u64 0] := by kernel_rfl
theorem zo12 : zeroOf Try.prog 12 = some (.int .u64 0) := by kernel_rfl
theorem un12 : Try.prog.underlying 12 = some (.int .u64) := by kernel_rfl
theorem us12 : (Try.prog.underlying 12).isSome = true := by kernel_rfl
theorem ta13 : tyAgg Try.prog 13 = some (true, 2) := by kernel_rfl
theorem zc13 : zeroCells' Try.prog 13 = some [S [], .int .u64 0] := by kernel_rfl
theorem zo13 : zeroOf Try.prog 13 = some (.agg #[S [], .int .u64 0]) := by kernel_rfl
theorem pl13 : placesOf Try.prog 13 = some [(0, 1), (1, 1)] := by kernel_rfl
theorem fo13_0 : fieldOff Try.prog 13 0 = some 0 := by kernel_rfl
theorem fo13_1 : fieldOff Try.prog 13 1 = some 1 := by kernel_rfl
theorem us13 : (Try.prog.underlying 13).isSome = true := by kernel_rfl
theorem ta14 : tyAgg Try.prog 14 = some (true, 2) := by kernel_rfl
theorem zc14 : zeroCells' Try.prog 14 = some [S [], .int .u64 0] := by kernel_rfl
theorem zo14 : zeroOf Try.prog 14 = some (.agg #[S [], .int .u64 0]) := by kernel_rfl
theorem pl14 : placesOf Try.prog 14 = some [(0, 1), (1, 1)] := by kernel_rfl
theorem fo14_0 : fieldOff Try.prog 14 0 = some 0 := by kernel_rfl
theorem fo14_1 : fieldOff Try.prog 14 1 = some 1 := by kernel_rfl
theorem us14 : (Try.prog.underlying 14).isSome = true := by kernel_rfl
theorem ta15 : tyAgg Try.prog 15 = some (false, 1) := by kernel_rfl
theorem zc15 : zeroCells' Try.prog 15 = some [.pointer none] := by kernel_rfl
theorem zo15 : zeroOf Try.prog 15 = some (.pointer none) := by kernel_rfl
theorem un15 : Try.prog.underlying 15 = some (.pointer 74) := by kernel_rfl
theorem us15 : (Try.prog.underlying 15).isSome = true := by kernel_rfl
theorem ta16 : tyAgg Try.prog 16 = some (false, 1) := by kernel_rfl
theorem zc16 : zeroCells' Try.prog 16 = some [.pointer none] := by kernel_rfl
theorem zo16 : zeroOf Try.prog 16 = some (.pointer none) := by kernel_rfl
theorem un16 : Try.prog.underlying 16 = some (.pointer 77) := by kernel_rfl
theorem us16 : (Try.prog.underlying 16).isSome = true := by kernel_rfl
theorem ta17 : tyAgg Try.prog 17 = some (false, 1) := by kernel_rfl
theorem zc17 : zeroCells' Try.prog 17 = some [.pointer none] := by kernel_rfl
theorem zo17 : zeroOf Try.prog 17 = some (.pointer none) := by kernel_rfl
theorem un17 : Try.prog.underlying 17 = some (.pointer 85) := by kernel_rfl
theorem us17 : (Try.prog.underlying 17).isSome = true := by kernel_rfl
theorem ta18 : tyAgg Try.prog 18 = some (true, 1) := by kernel_rfl
theorem zc18 : zeroCells' Try.prog 18 = some [.pointer none] := by kernel_rfl
theorem zo18 : zeroOf Try.prog 18 = some (.agg #[.pointer none]) := by kernel_rfl
theorem pl18 : placesOf Try.prog 18 = some [(0, 1)] := by kernel_rfl
theorem fo18_0 : fieldOff Try.prog 18 0 = some 0 := by kernel_rfl
theorem us18 : (Try.prog.underlying 18).isSome = true := by kernel_rfl
theorem ta19 : tyAgg Try.prog 19 = some (true, 1) := by kernel_rfl
theorem zc19 : zeroCells' Try.prog 19 = some [.pointer none] := by kernel_rfl
theorem zo19 : zeroOf Try.prog 19 = some (.agg #[.pointer none]) := by kernel_rfl
theorem pl19 : placesOf Try.prog 19 = some [(0, 1)] := by kernel_rfl
theorem fo19_0 : fieldOff Try.prog 19 0 = some 0 := by kernel_rfl
theorem us19 : (Try.prog.underlying 19).isSome = true := by kernel_rfl
theorem ta20 : tyAgg Try.prog 20 = some (false, 1) := by kernel_rfl
theorem zc20 : zeroCells' Try.prog 20 = some [.nilIface] := by kernel_rfl
theorem zo20 : zeroOf Try.prog 20 = some (.nilIface) := by kernel_rfl
theorem us20 : (Try.prog.underlying 20).isSome = true := by kernel_rfl
theorem ta21 : tyAgg Try.prog 21 = some (false, 1) := by kernel_rfl
theorem zc21 : zeroCells' Try.prog 21 = some [.int .i32 0] := by kernel_rfl
theorem zo21 : zeroOf Try.prog 21 = some (.int .i32 0) := by kernel_rfl
theorem un21 : Try.prog.underlying 21 = some (.int .i32) := by kernel_rfl
theorem us21 : (Try.prog.underlying 21).isSome = true := by kernel_rfl
theorem ta22 : tyAgg Try.prog 22 = some (false, 1) := by kernel_rfl
theorem zc22 : zeroCells' Try.prog 22 = some [.slice none 0 0] := by kernel_rfl
theorem zo22 : zeroOf Try.prog 22 = some (.slice none 0 0) := by kernel_rfl
theorem so22 : sliceOf Try.prog 22 = some (34, 5, 48) := by kernel_rfl
theorem us22 : (Try.prog.underlying 22).isSome = true := by kernel_rfl
theorem ta23 : tyAgg Try.prog 23 = some (false, 1) := by kernel_rfl
theorem zc23 : zeroCells' Try.prog 23 = some [.nilFunc] := by kernel_rfl
theorem zo23 : zeroOf Try.prog 23 = some (.nilFunc) := by kernel_rfl
theorem us23 : (Try.prog.underlying 23).isSome = true := by kernel_rfl
theorem ta24 : tyAgg Try.prog 24 = some (false, 1) := by kernel_rfl
theorem zc24 : zeroCells' Try.prog 24 = some [.pointer none] := by kernel_rfl
theorem zo24 : zeroOf Try.prog 24 = some (.pointer none) := by kernel_rfl
theorem un24 : Try.prog.underlying 24 = some (.pointer 32) := by kernel_rfl
theorem us24 : (Try.prog.underlying 24).isSome = true := by kernel_rfl
theorem ta25 : tyAgg Try.prog 25 = some (false, 1) := by kernel_rfl
theorem zc25 : zeroCells' Try.prog 25 = some [.nilFunc] := by kernel_rfl
theorem zo25 : zeroOf Try.prog 25 = some (.nilFunc) := by kernel_rfl
theorem us25 : (Try.prog.underlying 25).isSome = true := by kernel_rfl
theorem ta26 : tyAgg Try.prog 26 = some (false, 1) := by kernel_rfl
theorem zc26 : zeroCells' Try.prog 26 = some [.pointer none] := by kernel_rfl
theorem zo26 : zeroOf Try.prog 26 = some (.pointer none) := by kernel_rfl
theorem un26 : Try.prog.underlying 26 = some (.pointer 29) := by kernel_rfl
theorem us26 : (Try.prog.underlying 26).isSome = true := by kernel_rfl
theorem ta27 : tyAgg Try.prog 27 = some (false, 1) := by kernel_rfl
theorem zc27 : zeroCells' Try.prog 27 = some [.slice none 0 0] := by kernel_rfl
theorem zo27 : zeroOf Try.prog 27 = some (.slice none 0 0) := by kernel_rfl
theorem so27 : sliceOf Try.prog 27 = some (63, 4, 40) := by kernel_rfl
theorem us27 : (Try.prog.underlying 27).isSome = true := by kernel_rfl
theorem ta28 : tyAgg Try.prog 28 = some (true, 1) := by kernel_rfl
theorem zc28 : zeroCells' Try.prog 28 = some [.slice none 0 0] := by kernel_rfl
theorem zo28 : zeroOf Try.prog 28 = some (.agg #[.slice none 0 0]) := by kernel_rfl
theorem pl28 : placesOf Try.prog 28 = some [(0, 1)] := by kernel_rfl
theorem fo28_0 : fieldOff Try.prog 28 0 = some 0 := by kernel_rfl
theorem us28 : (Try.prog.underlying 28).isSome = true := by kernel_rfl
theorem ta29 : tyAgg Try.prog 29 = some (true, 1) := by kernel_rfl
theorem zc29 : zeroCells' Try.prog 29 = some [.slice none 0 0] := by kernel_rfl
theorem zo29 : zeroOf Try.prog 29 = some (.agg #[.slice none 0 0]) := by kernel_rfl
theorem pl29 : placesOf Try.prog 29 = some [(0, 1)] := by kernel_rfl
theorem fo29_0 : fieldOff Try.prog 29 0 = some 0 := by kernel_rfl
theorem us29 : (Try.prog.underlying 29).isSome = true := by kernel_rfl
theorem ta30 : tyAgg Try.prog 30 = some (false, 1) := by kernel_rfl
theorem zc30 : zeroCells' Try.prog 30 = some [.map none] := by kernel_rfl
theorem zo30 : zeroOf Try.prog 30 = some (.map none) := by kernel_rfl
theorem un30 : Try.prog.underlying 30 = some (.map 3 57) := by kernel_rfl
theorem us30 : (Try.prog.underlying 30).isSome = true := by kernel_rfl
theorem ta31 : tyAgg Try.prog 31 = some (true, 1) := by kernel_rfl
theorem zc31 : zeroCells' Try.prog 31 = some [.map none] := by kernel_rfl
theorem zo31 : zeroOf Try.prog 31 = some (.agg #[.map none]) := by kernel_rfl
theorem pl31 : placesOf Try.prog 31 = some [(0, 1)] := by kernel_rfl
theorem fo31_0 : fieldOff Try.prog 31 0 = some 0 := by kernel_rfl
theorem us31 : (Try.prog.underlying 31).isSome = true := by kernel_rfl
theorem ta32 : tyAgg Try.prog 32 = some (true, 1) := by kernel_rfl
theorem zc32 : zeroCells' Try.prog 32 = some [.map none] := by kernel_rfl
theorem zo32 : zeroOf Try.prog 32 = some (.agg #[.map none]) := by kernel_rfl
theorem pl32 : placesOf Try.prog 32 = some [(0, 1)] := by kernel_rfl
theorem fo32_0 : fieldOff Try.prog 32 0 = some 0 := by kernel_rfl
theorem us32 : (Try.prog.underlying 32).isSome = true := by kernel_rfl
theorem ta33 : tyAgg Try.prog 33 = some (true, 5) := by kernel_rfl
theorem zc33 : zeroCells' Try.prog 33 = some [.bool false, .int .i64 0, .int .i64 0, .int .i64 0, S []] := by kernel_rfl
theorem zo33 : zeroOf Try.prog 33 = some (.agg #[.bool false, .int .i64 0, .int .i64 0, .int .i64 0, S []]) := by kernel_rfl
theorem pl33 : placesOf Try.prog 33 = some [(0, 1), (1, 1), (2, 1), (3, 1), (4, 1)] := by kernel_rfl
theorem fo33_0 : fieldOff Try.prog 33 0 = some 0 := by kernel_rfl
theorem fo33_1 : fieldOff Try.prog 33 1 = some 1 := by kernel_rfl
theorem fo33_2 : fieldOff Try.prog 33 2 = some 2 := by kernel_rfl
theorem fo33_3 : fieldOff Try.prog 33 3 = some 3 := by kernel_rfl
theorem fo33_4 : fieldOff Try.prog 33 4 = some 4 := by kernel_rfl
theorem us33 : (Try.prog.underlying 33).isSome = true := by kernel_rfl
theorem ta34 : tyAgg Try.prog 34 = some (true, 5) := by kernel_rfl
theorem zc34 : zeroCells' Try.prog 34 = some [.bool false, .int .i64 0, .int .i64 0, .int .i64 0, S []] := by kernel_rfl
theorem zo34 : zeroOf Try.prog 34 = some (.agg #[.bool false, .int .i64 0, .int .i64 0, .int .i64 0, S []]) := by kernel_rfl
theorem pl34 : placesOf Try.prog 34 = some [(0, 1), (1, 1), (2, 1), (3, 1), (4, 1)] := by kernel_rfl
theorem fo34_0 : fieldOff Try.prog 34 0 = some 0 := by kernel_rfl
theorem fo34_1 : fieldOff Try.prog 34 1 = some 1 := by kernel_rfl
theorem fo34_2 : fieldOff Try.prog 34 2 = some 2 := by kernel_rfl
theorem fo34_3 : fieldOff Try.prog 34 3 = some 3 := by kernel_rfl
theorem fo34_4 : fieldOff Try.prog 34 4 = some 4 := by kernel_rfl
theorem fk34 : flatK Try.prog 34 = some [.b, .i .i64, .i .i64, .i .i64, .s] := by kernel_rfl
theorem us34 : (Try.prog.underlying 34).isSome = true := by kernel_rfl
theorem ta35 : tyAgg Try.prog 35 = some (true, 4) := by kernel_rfl
theorem zc35 : zeroCells' Try.prog 35 = some [.bool false, S [], .int .i64 0, .bool false] := by kernel_rfl
theorem zo35 : zeroOf Try.prog 35 = some (.agg #[.bool false, S [], .int .i64 0, .bool false]) := by kernel_rfl
theorem pl35 : placesOf Try.prog 35 = some [(0, 1), (1, 1), (2, 1), (3, 1)] := by kernel_rfl
theorem fo35_0 : fieldOff Try.prog 35 0 = some 0 := by kernel_rfl
theorem fo35_1 : fieldOff Try.prog 35 1 = some 1 := by kernel_rfl
theorem fo35_2 : fieldOff Try.prog 35 2 = some 2 := by kernel_rfl
theorem fo35_3 : fieldOff Try.prog 35 3 = some 3 := by kernel_rfl
theorem us35 : (Try.prog.underlying 35).isSome = true := by kernel_rfl
theorem ta36 : tyAgg Try.prog 36 = some (true, 4) := by kernel_rfl
theorem zc36 : zeroCells' Try.prog 36 = some [.bool false, S [], .int .i64 0, .bool false] := by kernel_rfl
theorem zo36 : zeroOf Try.prog 36 = some (.agg #[.bool false, S [], .int .i64 0, .bool false]) := by kernel_rfl
theorem pl36 : placesOf Try.prog 36 = some [(0, 1), (1, 1), (2, 1), (3, 1)] := by kernel_rfl
theorem fo36_0 : fieldOff Try.prog 36 0 = some 0 := by kernel_rfl
theorem fo36_1 : fieldOff Try.prog 36 1 = some 1 := by kernel_rfl
theorem fo36_2 : fieldOff Try.prog 36 2 = some 2 := by kernel_rfl
theorem fo36_3 : fieldOff Try.prog 36 3 = some 3 := by kernel_rfl
theorem fk36 : flatK Try.prog 36 = some [.b, .s, .i .i64, .b] := by kernel_rfl
theorem us36 : (Try.prog.underlying 36).isSome = true := by kernel_rfl
theorem ta37 : tyAgg Try.prog 37 = some (false, 1) := by kernel_rfl
theorem zc37 : zeroCells' Try.prog 37 = some [.int .i64 0] := by kernel_rfl
theorem zo37 : zeroOf Try.prog 37 = some (.int .i64 0) := by kernel_rfl
theorem un37 : Try.prog.underlying 37 = some (.int .i64) := by kernel_rfl
theorem us37 : (Try.prog.underlying 37).isSome = true := by kernel_rfl
theorem ta39 : tyAgg Try.prog 39 = some (false, 1) := by kernel_rfl
theorem zc39 : zeroCells' Try.prog 39 = some [.nilFunc] := by kernel_rfl
theorem zo39 : zeroOf Try.prog 39 = some (.nilFunc) := by kernel_rfl
theorem us39 : (Try.prog.underlying 39).isSome = true := by kernel_rfl
theorem ta40 : tyAgg Try.prog 40 = some (false, 1) := by kernel_rfl
theorem zc40 : zeroCells' Try.prog 40 = some [.nilFunc] := by kernel_rfl
theorem zo40 : zeroOf Try.prog 40 = some (.nilFunc) := by kernel_rfl
theorem us40 : (Try.prog.underlying 40).isSome = true := by kernel_rfl
theorem ta41 : tyAgg Try.prog 41 = some (false, 1) := by kernel_rfl
theorem zc41 : zeroCells' Try.prog 41 = some [.nilFunc] := by kernel_rfl
theorem zo41 : zeroOf Try.prog 41 = some (.nilFunc) := by kernel_rfl
theorem us41 : (Try.prog.underlying 41).isSome = true := by kernel_rfl
theorem ta42 : tyAgg Try.prog 42 = some (false, 1) := by kernel_rfl
theorem zc42 : zeroCells' Try.prog 42 = some [.slice none 0 0] := by kernel_rfl
theorem zo42 : zeroOf Try.prog 42 = some (.slice none 0 0) := by kernel_rfl
theorem so42 : sliceOf Try.prog 42 = some (9, 1, 16) := by kernel_rfl
theorem us42 : (Try.prog.underlying 42).isSome = true := by kernel_rfl
theorem ta43 : tyAgg Try.prog 43 = some (false, 1) := by kernel_rfl
theorem zc43 : zeroCells' Try.prog 43 = some [.slice none 0 0] := by kernel_rfl
theorem zo43 : zeroOf Try.prog 43 = some (.slice none 0 0) := by kernel_rfl
theorem so43 : sliceOf Try.prog 43 = some (4, 1, 1) := by kernel_rfl
theorem us43 : (Try.prog.underlying 43).isSome = true := by kernel_rfl
theorem ta44 : tyAgg Try.prog 44 = some (false, 1) := by kernel_rfl
theorem zc44 : zeroCells' Try.prog 44 = some [.nilFunc] := by kernel_rfl
theorem zo44 : zeroOf Try.prog 44 = some (.nilFunc) := by kernel_rfl
theorem us44 : (Try.prog.underlying 44).isSome = true := by kernel_rfl
theorem ta46 : tyAgg Try.prog 46 = some (false, 1) := by kernel_rfl
theorem zc46 : zeroCells' Try.prog 46 = some [.nilFunc] := by kernel_rfl
theorem zo46 : zeroOf Try.prog 46 = some (.nilFunc) := by kernel_rfl
theorem us46 : (Try.prog.underlying 46).isSome = true := by kernel_rfl
theorem ta47 : tyAgg Try.prog 47 = some (false, 1) := by kernel_rfl
theorem zc47 : zeroCells' Try.prog 47 = some [.nilFunc] := by kernel_rfl
theorem zo47 : zeroOf Try.prog 47 = some (.nilFunc) := by kernel_rfl
theorem us47 : (Try.prog.underlying 47).isSome = true := by kernel_rfl
theorem ta48 : tyAgg Try.prog 48 = some (false, 1) := by kernel_rfl
theorem zc48 : zeroCells' Try.prog 48 = some [.nilFunc] := by kernel_rfl
theorem zo48 : zeroOf Try.prog 48 = some (.nilFunc) := by kernel_rfl
theorem us48 : (Try.prog.underlying 48).isSome = true := by kernel_rfl
theorem ta49 : tyAgg Try.prog 49 = some (false, 1) := by kernel_rfl
theorem zc49 : zeroCells' Try.prog 49 = some [.nilFunc] := by kernel_rfl
theorem zo49 : zeroOf Try.prog 49 = some (.nilFunc) := by kernel_rfl
theorem us49 : (Try.prog.underlying 49).isSome = true := by kernel_rfl
theorem ta51 : tyAgg Try.prog 51 = some (false, 1) := by kernel_rfl
theorem zc51 : zeroCells' Try.prog 51 = some [.nilFunc] := by kernel_rfl
theorem zo51 : zeroOf Try.prog 51 = some (.nilFunc) := by kernel_rfl
theorem us51 : (Try.prog.underlying 51).isSome = true := by kernel_rfl
theorem ta53 : tyAgg Try.prog 53 = some (false, 1) := by kernel_rfl
theorem zc53 : zeroCells' Try.prog 53 = some [.nilFunc] := by kernel_rfl
theorem zo53 : zeroOf Try.prog 53 = some (.nilFunc) := by kernel_rfl
theorem us53 : (Try.prog.underlying 53).isSome = true := by kernel_rfl
theorem ta54 : tyAgg Try.prog 54 = some (false, 1) := by kernel_rfl
theorem zc54 : zeroCells' Try.prog 54 = some [.nilFunc] := by kernel_rfl
theorem zo54 : zeroOf Try.prog 54 = some (.nilFunc) := by kernel_rfl
theorem us54 : (Try.prog.underlying 54).isSome = true := by kernel_rfl
theorem ta55 : tyAgg Try.prog 55 = some (false, 1) := by kernel_rfl
theorem zc55 : zeroCells' Try.prog 55 = some [.slice none 0 0] := by kernel_rfl
theorem zo55 : zeroOf Try.prog 55 = some (.slice none 0 0) := by kernel_rfl
theorem so55 : sliceOf Try.prog 55 = some (5, 1, 1) := by kernel_rfl
theorem us55 : (Try.prog.underlying 55).isSome = true := by kernel_rfl
theorem ta56 : tyAgg Try.prog 56 = some (true, 3) := by kernel_rfl
theorem zc56 : zeroCells' Try.prog 56 = some [.int .i64 0, .bool false, .slice none 0 0] := by kernel_rfl
theorem zo56 : zeroOf Try.prog 56 = some (.agg #[.int .i64 0, .bool false, .slice none 0 0]) := by kernel_rfl
theorem pl56 : placesOf Try.prog 56 = some [(0, 1), (1, 1), (2, 1)] := by kernel_rfl
theorem fo56_0 : fieldOff Try.prog 56 0 = some 0 := by kernel_rfl
theorem fo56_1 : fieldOff Try.prog 56 1 = some 1 := by kernel_rfl
theorem fo56_2 : fieldOff Try.prog 56 2 = some 2 := by kernel_rfl
theorem us56 : (Try.prog.underlying 56).isSome = true := by kernel_rfl
theorem ta57 : tyAgg Try.prog 57 = some (true, 3) := by kernel_rfl
theorem zc57 : zeroCells' Try.prog 57 = some [.int .i64 0, .bool false, .slice none 0 0] := by kernel_rfl
theorem zo57 : zeroOf Try.prog 57 = some (.agg #[.int .i64 0, .bool false, .slice none 0 0]) := by kernel_rfl
theorem pl57 : placesOf Try.prog 57 = some [(0, 1), (1, 1), (2, 1)] := by kernel_rfl
theorem fo57_0 : fieldOff Try.prog 57 0 = some 0 := by kernel_rfl
theorem fo57_1 : fieldOff Try.prog 57 1 = some 1 := by kernel_rfl
theorem fo57_2 : fieldOff Try.prog 57 2 = some 2 := by kernel_rfl
theorem us57 : (Try.prog.underlying 57).isSome = true := by kernel_rfl
theorem ta60 : tyAgg Try.prog 60 = some (false, 1) := by kernel_rfl
theorem zc60 : zeroCells' Try.prog 60 = some [.nilFunc] := by kernel_rfl
theorem zo60 : zeroOf Try.prog 60 = some (.nilFunc) := by kernel_rfl
theorem us60 : (Try.prog.underlying 60).isSome = true := by kernel_rfl
theorem ta61 : tyAgg Try.prog 61 = some (false, 1) := by kernel_rfl
theorem zc61 : zeroCells' Try.prog 61 = some [.pointer none] := by kernel_rfl
theorem zo61 : zeroOf Try.prog 61 = some (.pointer none) := by kernel_rfl
theorem un61 : Try.prog.underlying 61 = some (.pointer 63) := by kernel_rfl
theorem us61 : (Try.prog.underlying 61).isSome = true := by kernel_rfl
theorem ta62 : tyAgg Try.prog 62 = some (true, 4) := by kernel_rfl
theorem zc62 : zeroCells' Try.prog 62 = some [.int .i64 0, .int .i64 0, .bool false, S []] := by kernel_rfl
theorem zo62 : zeroOf Try.prog 62 = some (.agg #[.int .i64 0, .int .i64 0, .bool false, S []]) := by kernel_rfl
theorem pl62 : placesOf Try.prog 62 = some [(0, 1), (1, 1), (2, 1), (3, 1)] := by kernel_rfl
theorem fo62_0 : fieldOff Try.prog 62 0 = some 0 := by kernel_rfl
theorem fo62_1 : fieldOff Try.prog 62 1 = some 1 := by kernel_rfl
theorem fo62_2 : fieldOff Try.prog 62 2 = some 2 := by kernel_rfl
theorem fo62_3 : fieldOff Try.prog 62 3 = some 3 := by kernel_rfl
theorem us62 : (Try.prog.underlying 62).isSome = true := by kernel_rfl
theorem ta63 : tyAgg Try.prog 63 = some (true, 4) := by kernel_rfl
theorem zc63 : zeroCells' Try.prog 63 = some [.int .i64 0, .int .i64 0, .bool false, S []] := by kernel_rfl
theorem zo63 : zeroOf Try.prog 63 = some (.agg #[.int .i64 0, .int .i64 0, .bool false, S []]) := by kernel_rfl
theorem pl63 : placesOf Try.prog 63 = some [(0, 1), (1, 1), (2, 1), (3, 1)] := by kernel_rfl
theorem fo63_0 : fieldOff Try.prog 63 0 = some 0 := by kernel_rfl
theorem fo63_1 : fieldOff Try.prog 63 1 = some 1 := by kernel_rfl
theorem fo63_2 : fieldOff Try.prog 63 2 = some 2 := by kernel_rfl
theorem fo63_3 : fieldOff Try.prog 63 3 = some 3 := by kernel_rfl
theorem fk63 : flatK Try.prog 63 = some [.i .i64, .i .i64, .b, .s] := by kernel_rfl
theorem us63 : (Try.prog.underlying 63).isSome = true := by kernel_rfl
theorem ta64 : tyAgg Try.prog 64 = some (false, 1) := by kernel_rfl
theorem zc64 : zeroCells' Try.prog 64 = some [.nilFunc] := by kernel_rfl
theorem zo64 : zeroOf Try.prog 64 = some (.nilFunc) := by kernel_rfl
theorem us64 : (Try.prog.underlying 64).isSome = true := by kernel_rfl
theorem ta65 : tyAgg Try.prog 65 = some (false, 1) := by kernel_rfl
theorem zc65 : zeroCells' Try.prog 65 = some [.nilFunc] := by kernel_rfl
theorem zo65 : zeroOf Try.prog 65 = some (.nilFunc) := by kernel_rfl
theorem us65 : (Try.prog.underlying 65).isSome = true := by kernel_rfl
theorem ta66 : tyAgg Try.prog 66 = some (false, 1) := by kernel_rfl
theorem zc66 : zeroCells' Try.prog 66 = some [.nilFunc] := by kernel_rfl
theorem zo66 : zeroOf Try.prog 66 = some (.nilFunc) := by kernel_rfl
theorem us66 : (Try.prog.underlying 66).isSome = true := by kernel_rfl
theorem ta67 : tyAgg Try.prog 67 = some (false, 1) := by kernel_rfl
theorem zc67 : zeroCells' Try.prog 67 = some [.int .u64 0] := by kernel_rfl
theorem zo67 : zeroOf Try.prog 67 = some (.int .u64 0) := by kernel_rfl
theorem un67 : Try.prog.underlying 67 = some (.int .u64) := by kernel_rfl
theorem us67 : (Try.prog.underlying 67).isSome = true := by kernel_rfl
theorem ta68 : tyAgg Try.prog 68 = some (false, 1) := by kernel_rfl
theorem zc68 : zeroCells' Try.prog 68 = some [.nilFunc] := by kernel_rfl
theorem zo68 : zeroOf Try.prog 68 = some (.nilFunc) := by kernel_rfl
theorem us68 : (Try.prog.underlying 68).isSome = true := by kernel_rfl
theorem ta69 : tyAgg Try.prog 69 = some (false, 1) := by kernel_rfl
theorem zc69 : zeroCells' Try.prog 69 = some [.nilFunc] := by kernel_rfl
theorem zo69 : zeroOf Try.prog 69 = some (.nilFunc) := by kernel_rfl
theorem us69 : (Try.prog.underlying 69).isSome = true := by kernel_rfl
theorem ta70 : tyAgg Try.prog 70 = some (false, 1) := by kernel_rfl
theorem zc70 : zeroCells' Try.prog 70 = some [.pointer none] := by kernel_rfl
theorem zo70 : zeroOf Try.prog 70 = some (.pointer none) := by kernel_rfl
theorem un70 : Try.prog.underlying 70 = some (.pointer 5) := by kernel_rfl
theorem us70 : (Try.prog.underlying 70).isSome = true := by kernel_rfl
theorem ta71 : tyAgg Try.prog 71 = some (false, 1) := by kernel_rfl
theorem zc71 : zeroCells' Try.prog 71 = some [.slice none 0 0] := by kernel_rfl
theorem zo71 : zeroOf Try.prog 71 = some (.slice none 0 0) := by kernel_rfl
theorem so71 : sliceOf Try.prog 71 = some (3, 1, 8) := by kernel_rfl
theorem us71 : (Try.prog.underlying 71).isSome = true := by kernel_rfl
theorem ta72 : tyAgg Try.prog 72 = some (false, 1) := by kernel_rfl
theorem zc72 : zeroCells' Try.prog 72 = some [.nilFunc] := by kernel_rfl
theorem zo72 : zeroOf Try.prog 72 = some (.nilFunc) := by kernel_rfl
theorem us72 : (Try.prog.underlying 72).isSome = true := by kernel_rfl
theorem ta73 : tyAgg Try.prog 73 = some (true, 4) := by kernel_rfl
theorem zc73 : zeroCells' Try.prog 73 = some [.pointer none, .pointer none, .pointer none, S []] := by kernel_rfl
theorem zo73 : zeroOf Try.prog 73 = some (.agg #[.pointer none, .pointer none, .pointer none, S []]) := by kernel_rfl
theorem pl73 : placesOf Try.prog 73 = some [(0, 1), (1, 1), (2, 1), (3, 1)] := by kernel_rfl
theorem fo73_0 : fieldOff Try.prog 73 0 = some 0 := by kernel_rfl
theorem fo73_1 : fieldOff Try.prog 73 1 = some 1 := by kernel_rfl
theorem fo73_2 : fieldOff Try.prog 73 2 = some 2 := by kernel_rfl
theorem fo73_3 : fieldOff Try.prog 73 3 = some 3 := by kernel_rfl
theorem us73 : (Try.prog.underlying 73).isSome = true := by kernel_rfl
theorem ta74 : tyAgg Try.prog 74 = some (true, 4) := by kernel_rfl
theorem zc74 : zeroCells' Try.prog 74 = some [.pointer none, .pointer none, .pointer none, S []] := by kernel_rfl
theorem zo74 : zeroOf Try.prog 74 = some (.agg #[.pointer none, .pointer none, .pointer none, S []]) := by kernel_rfl
theorem pl74 : placesOf Try.prog 74 = some [(0, 1), (1, 1), (2, 1), (3, 1)] := by kernel_rfl
theorem fo74_0 : fieldOff Try.prog 74 0 = some 0 := by kernel_rfl
theorem fo74_1 : fieldOff Try.prog 74 1 = some 1 := by kernel_rfl
theorem fo74_2 : fieldOff Try.prog 74 2 = some 2 := by kernel_rfl
theorem fo74_3 : fieldOff Try.prog 74 3 = some 3 := by kernel_rfl
theorem us74 : (Try.prog.underlying 74).isSome = true := by kernel_rfl
theorem ta75 : tyAgg Try.prog 75 = some (true, 0) := by kernel_rfl
theorem zc75 : zeroCells' Try.prog 75 = some [] := by kernel_rfl
theorem zo75 : zeroOf Try.prog 75 = some (.agg #[]) := by kernel_rfl
theorem ar75 : Try.prog.underlying 75 = some (.array 0 16) := by kernel_rfl
theorem us75 : (Try.prog.underlying 75).isSome = true := by kernel_rfl
theorem ta76 : tyAgg Try.prog 76 = some (true, 0) := by kernel_rfl
theorem zc76 : zeroCells' Try.prog 76 = some [] := by kernel_rfl
theorem zo76 : zeroOf Try.prog 76 = some (.agg #[]) := by kernel_rfl
theorem pl76 : placesOf Try.prog 76 = some [(0, 0)] := by kernel_rfl
theorem us76 : (Try.prog.underlying 76).isSome = true := by kernel_rfl
theorem ta77 : tyAgg Try.prog 77 = some (true, 0) := by kernel_rfl
theorem zc77 : zeroCells' Try.prog 77 = some [] := by kernel_rfl
theorem zo77 : zeroOf Try.prog 77 = some (.agg #[]) := by kernel_rfl
theorem pl77 : placesOf Try.prog 77 = some [(0, 0)] := by kernel_rfl
theorem us77 : (Try.prog.underlying 77).isSome = true := by kernel_rfl
theorem ta78 : tyAgg Try.prog 78 = some (false, 1) := by kernel_rfl
theorem zc78 : zeroCells' Try.prog 78 = some [.int .u32 0] := by kernel_rfl
theorem zo78 : zeroOf Try.prog 78 = some (.int .u32 0) := by kernel_rfl
theorem un78 : Try.prog.underlying 78 = some (.int .u32) := by kernel_rfl
theorem us78 : (Try.prog.underlying 78).isSome = true := by kernel_rfl
theorem ta79 : tyAgg Try.prog 79 = some (false, 1) := by kernel_rfl
theorem zc79 : zeroCells' Try.prog 79 = some [.int .u8 0] := by kernel_rfl
theorem zo79 : zeroOf Try.prog 79 = some (.int .u8 0) := by kernel_rfl
theorem un79 : Try.prog.underlying 79 = some (.int .u8) := by kernel_rfl
theorem co79 : Try.prog.cellsOf 79 = 1 := by kernel_rfl
theorem us79 : (Try.prog.underlying 79).isSome = true := by kernel_rfl
theorem ta80 : tyAgg Try.prog 80 = some (false, 1) := by kernel_rfl
theorem zc80 : zeroCells' Try.prog 80 = some [.int .u8 0] := by kernel_rfl
theorem zo80 : zeroOf Try.prog 80 = some (.int .u8 0) := by kernel_rfl
theorem un80 : Try.prog.underlying 80 = some (.int .u8) := by kernel_rfl
theorem co80 : Try.prog.cellsOf 80 = 1 := by kernel_rfl
theorem us80 : (Try.prog.underlying 80).isSome = true := by kernel_rfl
theorem ta81 : tyAgg Try.prog 81 = some (false, 1) := by kernel_rfl
theorem zc81 : zeroCells' Try.prog 81 = some [.nilFunc] := by kernel_rfl
theorem zo81 : zeroOf Try.prog 81 = some (.nilFunc) := by kernel_rfl
theorem us81 : (Try.prog.underlying 81).isSome = true := by kernel_rfl
theorem ta82 : tyAgg Try.prog 82 = some (false, 1) := by kernel_rfl
theorem zc82 : zeroCells' Try.prog 82 = some [.int .i32 0] := by kernel_rfl
theorem zo82 : zeroOf Try.prog 82 = some (.int .i32 0) := by kernel_rfl
theorem un82 : Try.prog.underlying 82 = some (.int .i32) := by kernel_rfl
theorem us82 : (Try.prog.underlying 82).isSome = true := by kernel_rfl
theorem ta83 : tyAgg Try.prog 83 = some (false, 1) := by kernel_rfl
theorem zc83 : zeroCells' Try.prog 83 = some [.int .i32 0] := by kernel_rfl
theorem zo83 : zeroOf Try.prog 83 = some (.int .i32 0) := by kernel_rfl
theorem un83 : Try.prog.underlying 83 = some (.int .i32) := by kernel_rfl
theorem us83 : (Try.prog.underlying 83).isSome = true := by kernel_rfl
theorem ta84 : tyAgg Try.prog 84 = some (true, 11) := by kernel_rfl
theorem zc84 : zeroCells' Try.prog 84 = some [.int .u64 0, .int .u64 0, .int .u32 0, .int .u8 0, .int .u8 0, .int .u8 0, .int .u8 0, .nilFunc, .pointer none, .int .i32 0, .int .i32 0] := by kernel_rfl
theorem zo84 : zeroOf Try.prog 84 = some (.agg #[.int .u64 0, .int .u64 0, .int .u32 0, .int .u8 0, .int .u8 0, .int .u8 0, .int .u8 0, .nilFunc, .pointer none, .int .i32 0, .int .i32 0]) := by kernel_rfl
theorem pl84 : placesOf Try.prog 84 = some [(0, 1), (1, 1), (2, 1), (3, 1), (4, 1), (5, 1), (6, 1), (7, 1), (8, 1), (9, 1), (10, 1)] := by kernel_rfl
theorem fo84_0 : fieldOff Try.prog 84 0 = some 0 := by kernel_rfl
theorem fo84_1 : fieldOff Try.prog 84 1 = some 1 := by kernel_rfl
theorem fo84_2 : fieldOff Try.prog 84 2 = some 2 := by kernel_rfl
theorem fo84_3 : fieldOff Try.prog 84 3 = some 3 := by kernel_rfl
theorem fo84_4 : fieldOff Try.prog 84 4 = some 4 := by kernel_rfl
theorem fo84_5 : fieldOff Try.prog 84 5 = some 5 := by kernel_rfl
theorem fo84_6 : fieldOff Try.prog 84 6 = some 6 := by kernel_rfl
theorem fo84_7 : fieldOff Try.prog 84 7 = some 7 := by kernel_rfl
theorem fo84_8 : fieldOff Try.prog 84 8 = some 8 := by kernel_rfl
theorem fo84_9 : fieldOff Try.prog 84 9 = some 9 := by kernel_rfl
theorem fo84_10 : fieldOff Try.prog 84 10 = some 10 := by kernel_rfl
theorem us84 : (Try.prog.underlying 84).isSome = true := by kernel_rfl
theorem ta85 : tyAgg Try.prog 85 = some (true, 11) := by kernel_rfl
theorem zc85 : zeroCells' Try.prog 85 = some [.int .u64 0, .int .u64 0, .int .u32 0, .int .u8 0, .int .u8 0, .int .u8 0, .int .u8 0, .nilFunc, .pointer none, .int .i32 0, .int .i32 0] := by kernel_rfl
theorem zo85 : zeroOf Try.prog 85 = some (.agg #[.int .u64 0, .int .u64 0, .int .u32 0, .int .u8 0, .int .u8 0, .int .u8 0, .int .u8 0, .nilFunc, .pointer none, .int .i32 0, .int .i32 0]) := by kernel_rfl
theorem pl85 : placesOf Try.prog 85 = some [(0, 1), (1, 1), (2, 1), (3, 1), (4, 1), (5, 1), (6, 1), (7, 1), (8, 1), (9, 1), (10, 1)] := by kernel_rfl
theorem fo85_0 : fieldOff Try.prog 85 0 = some 0 := by kernel_rfl
theorem fo85_1 : fieldOff Try.prog 85 1 = some 1 := by kernel_rfl
theorem fo85_2 : fieldOff Try.prog 85 2 = some 2 := by kernel_rfl
theorem fo85_3 : fieldOff Try.prog 85 3 = some 3 := by kernel_rfl
theorem fo85_4 : fieldOff Try.prog 85 4 = some 4 := by kernel_rfl
theorem fo85_5 : fieldOff Try.prog 85 5 = some 5 := by kernel_rfl
theorem fo85_6 : fieldOff Try.prog 85 6 = some 6 := by kernel_rfl
theorem fo85_7 : fieldOff Try.prog 85 7 = some 7 := by kernel_rfl
theorem fo85_8 : fieldOff Try.prog 85 8 = some 8 := by kernel_rfl
theorem fo85_9 : fieldOff Try.prog 85 9 = some 9 := by kernel_rfl
theorem fo85_10 : fieldOff Try.prog 85 10 = some 10 := by kernel_rfl
theorem us85 : (Try.prog.underlying 85).isSome = true := by kernel_rfl
theorem ta86 : tyAgg Try.prog 86 = some (false, 1) := by kernel_rfl
theorem zc86 : zeroCells' Try.prog 86 = some [.pointer none] := by kernel_rfl
theorem zo86 : zeroOf Try.prog 86 = some (.pointer none) := by kernel_rfl
theorem us86 : (Try.prog.underlying 86).isSome = true := by kernel_rfl
theorem cf2 : callable Try.prog 2 = true := by kernel_rfl
theorem cf3 : callable Try.prog 3 = true := by kernel_rfl
theorem cf4 : callable Try.prog 4 = true := by kernel_rfl
theorem cf5 : callable Try.prog 5 = true := by kernel_rfl
theorem cf6 : callable Try.prog 6 = true := by kernel_rfl
theorem cf7 : callable Try.prog 7 = true := by kernel_rfl
theorem cf8 : callable Try.prog 8 = true := by kernel_rfl
theorem cf9 : callable Try.prog 9 = true := by kernel_rfl
theorem cf10 : callable Try.prog 10 = true := by kernel_rfl
theorem cf11 : callable Try.prog 11 = true := by kernel_rfl
theorem cf12 : callable Try.prog 12 = true := by kernel_rfl
theorem cf13 : callable Try.prog 13 = true := by kernel_rfl
theorem cf14 : callable Try.prog 14 = true := by kernel_rfl
theorem cf15 : callable Try.prog 15 = true := by kernel_rfl
theorem cf16 : callable Try.prog 16 = true := by kernel_rfl
theorem cf17 : callable Try.prog 17 = true := by kernel_rfl
theorem cf18 : callable Try.prog 18 = true := by kernel_rfl
theorem cf19 : callable Try.prog 19 = true := by kernel_rfl
theorem cf20 : callable Try.prog 20 = true := by kernel_rfl
theorem cf21 : callable Try.prog 21 = true := by kernel_rfl
theorem cf22 : callable Try.prog 22 = true := by kernel_rfl
theorem cf23 : callable Try.prog 23 = true := by kernel_rfl
theorem cf24 : callable Try.prog 24 = true := by kernel_rfl
theorem cf25 : callable Try.prog 25 = true := by kernel_rfl
theorem cf26 : callable Try.prog 26 = true := by kernel_rfl
end Sx
end Go.Proofs.Ytkofbanncacamaa
