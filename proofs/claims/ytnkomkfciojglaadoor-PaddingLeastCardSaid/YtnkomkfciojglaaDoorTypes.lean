/- The facts on this program's types and functions, as instances. -/
import Derived.Test.YtnkomkfciojglaaDoorChecked
import Derived.Test.YtnkomkfciojglaaDoorCall
import Derived.KernelRfl
namespace Go.Proofs.YtnkomkfciojglaaDoor
open Go Eng
set_option maxRecDepth 100000
theorem Tryd.hm : HM Tryd.prog := ⟨by kernel_rfl⟩
theorem Tryd.hs0 : HS Tryd.prog 0 1 0 := HS.of (by kernel_rfl)
theorem Tryd.ht0 : HT Tryd.prog 0 true := ⟨_, Tryd.underlying0, rfl⟩
theorem Tryd.hs1 : HS Tryd.prog 1 1 8 := HS.of (by kernel_rfl)
theorem Tryd.ht1 : HT Tryd.prog 1 true := ⟨_, Tryd.underlying1, rfl⟩
theorem Tryd.hz1 : HZ Tryd.prog 1 (.nilFunc) := ⟨Tryd.zeroValue1⟩
theorem Tryd.hs2 : HS Tryd.prog 2 1 8 := HS.of (by kernel_rfl)
theorem Tryd.ht2 : HT Tryd.prog 2 true := ⟨_, Tryd.underlying2, rfl⟩
theorem Tryd.hu2 : HU Tryd.prog 2 (.int .i64) := ⟨Tryd.underlying2⟩
theorem Tryd.hz2 : HZ Tryd.prog 2 (.int .i64 0) := ⟨Tryd.zeroValue2⟩
theorem Tryd.hs3 : HS Tryd.prog 3 1 8 := HS.of (by kernel_rfl)
theorem Tryd.ht3 : HT Tryd.prog 3 true := ⟨_, Tryd.underlying3, rfl⟩
theorem Tryd.hu3 : HU Tryd.prog 3 (.int .i64) := ⟨Tryd.underlying3⟩
theorem Tryd.hz3 : HZ Tryd.prog 3 (.int .i64 0) := ⟨Tryd.zeroValue3⟩
theorem Tryd.hs4 : HS Tryd.prog 4 1 1 := HS.of (by kernel_rfl)
theorem Tryd.ht4 : HT Tryd.prog 4 true := ⟨_, Tryd.underlying4, rfl⟩
theorem Tryd.hu4 : HU Tryd.prog 4 (.bool) := ⟨Tryd.underlying4⟩
theorem Tryd.hz4 : HZ Tryd.prog 4 (.bool false) := ⟨Tryd.zeroValue4⟩
theorem Tryd.hs5 : HS Tryd.prog 5 1 1 := HS.of (by kernel_rfl)
theorem Tryd.ht5 : HT Tryd.prog 5 true := ⟨_, Tryd.underlying5, rfl⟩
theorem Tryd.hu5 : HU Tryd.prog 5 (.int .u8) := ⟨Tryd.underlying5⟩
theorem Tryd.hz5 : HZ Tryd.prog 5 (.int .u8 0) := ⟨Tryd.zeroValue5⟩
theorem Tryd.hs6 : HS Tryd.prog 6 1 1 := HS.of (by kernel_rfl)
theorem Tryd.ht6 : HT Tryd.prog 6 true := ⟨_, Tryd.underlying6, rfl⟩
theorem Tryd.hu6 : HU Tryd.prog 6 (.int .u8) := ⟨Tryd.underlying6⟩
theorem Tryd.hz6 : HZ Tryd.prog 6 (.int .u8 0) := ⟨Tryd.zeroValue6⟩
theorem Tryd.hs7 : HS Tryd.prog 7 4 24 := HS.of (by kernel_rfl)
theorem Tryd.ht7 : HT Tryd.prog 7 false := ⟨_, Tryd.underlying7, rfl⟩
theorem Tryd.hd7_0 : HD Tryd.prog 7 0 2 0 := ⟨_, _, Tryd.underlying7, rfl, rfl, rfl⟩
theorem Tryd.hd7_1 : HD Tryd.prog 7 1 3 1 := ⟨_, _, Tryd.underlying7, rfl, rfl, rfl⟩
theorem Tryd.hd7_2 : HD Tryd.prog 7 2 4 2 := ⟨_, _, Tryd.underlying7, rfl, rfl, rfl⟩
theorem Tryd.hd7_3 : HD Tryd.prog 7 3 6 3 := ⟨_, _, Tryd.underlying7, rfl, rfl, rfl⟩
theorem Tryd.hz7 : HZ Tryd.prog 7 (.agg #[.int .i64 0, .int .i64 0, .bool false, .int .u8 0]) := ⟨Tryd.zeroValue7⟩
theorem Tryd.hs8 : HS Tryd.prog 8 4 24 := HS.of (by kernel_rfl)
theorem Tryd.ht8 : HT Tryd.prog 8 false := ⟨_, Tryd.underlying8, rfl⟩
theorem Tryd.hd8_0 : HD Tryd.prog 8 0 2 0 := ⟨_, _, Tryd.underlying8, rfl, rfl, rfl⟩
theorem Tryd.hd8_1 : HD Tryd.prog 8 1 3 1 := ⟨_, _, Tryd.underlying8, rfl, rfl, rfl⟩
theorem Tryd.hd8_2 : HD Tryd.prog 8 2 4 2 := ⟨_, _, Tryd.underlying8, rfl, rfl, rfl⟩
theorem Tryd.hd8_3 : HD Tryd.prog 8 3 6 3 := ⟨_, _, Tryd.underlying8, rfl, rfl, rfl⟩
theorem Tryd.hz8 : HZ Tryd.prog 8 (.agg #[.int .i64 0, .int .i64 0, .bool false, .int .u8 0]) := ⟨Tryd.zeroValue8⟩
theorem Tryd.hs9 : HS Tryd.prog 9 1 16 := HS.of (by kernel_rfl)
theorem Tryd.ht9 : HT Tryd.prog 9 true := ⟨_, Tryd.underlying9, rfl⟩
theorem Tryd.hu9 : HU Tryd.prog 9 (.string) := ⟨Tryd.underlying9⟩
theorem Tryd.hz9 : HZ Tryd.prog 9 (.string .empty) := ⟨Tryd.zeroValue9⟩
theorem Tryd.hs10 : HS Tryd.prog 10 1 16 := HS.of (by kernel_rfl)
theorem Tryd.ht10 : HT Tryd.prog 10 true := ⟨_, Tryd.underlying10, rfl⟩
theorem Tryd.hu10 : HU Tryd.prog 10 (.string) := ⟨Tryd.underlying10⟩
theorem Tryd.hz10 : HZ Tryd.prog 10 (.string .empty) := ⟨Tryd.zeroValue10⟩
theorem Tryd.hs11 : HS Tryd.prog 11 1 16 := HS.of (by kernel_rfl)
theorem Tryd.ht11 : HT Tryd.prog 11 true := ⟨_, Tryd.underlying11, rfl⟩
theorem Tryd.hu11 : HU Tryd.prog 11 (.string) := ⟨Tryd.underlying11⟩
theorem Tryd.hz11 : HZ Tryd.prog 11 (.string .empty) := ⟨Tryd.zeroValue11⟩
theorem Tryd.hs12 : HS Tryd.prog 12 1 8 := HS.of (by kernel_rfl)
theorem Tryd.ht12 : HT Tryd.prog 12 true := ⟨_, Tryd.underlying12, rfl⟩
theorem Tryd.hu12 : HU Tryd.prog 12 (.int .u64) := ⟨Tryd.underlying12⟩
theorem Tryd.hz12 : HZ Tryd.prog 12 (.int .u64 0) := ⟨Tryd.zeroValue12⟩
theorem Tryd.hs13 : HS Tryd.prog 13 2 24 := HS.of (by kernel_rfl)
theorem Tryd.ht13 : HT Tryd.prog 13 false := ⟨_, Tryd.underlying13, rfl⟩
theorem Tryd.hd13_0 : HD Tryd.prog 13 0 9 0 := ⟨_, _, Tryd.underlying13, rfl, rfl, rfl⟩
theorem Tryd.hd13_1 : HD Tryd.prog 13 1 12 1 := ⟨_, _, Tryd.underlying13, rfl, rfl, rfl⟩
theorem Tryd.hz13 : HZ Tryd.prog 13 (.agg #[.string .empty, .int .u64 0]) := ⟨Tryd.zeroValue13⟩
theorem Tryd.hs14 : HS Tryd.prog 14 2 24 := HS.of (by kernel_rfl)
theorem Tryd.ht14 : HT Tryd.prog 14 false := ⟨_, Tryd.underlying14, rfl⟩
theorem Tryd.hd14_0 : HD Tryd.prog 14 0 9 0 := ⟨_, _, Tryd.underlying14, rfl, rfl, rfl⟩
theorem Tryd.hd14_1 : HD Tryd.prog 14 1 12 1 := ⟨_, _, Tryd.underlying14, rfl, rfl, rfl⟩
theorem Tryd.hz14 : HZ Tryd.prog 14 (.agg #[.string .empty, .int .u64 0]) := ⟨Tryd.zeroValue14⟩
theorem Tryd.hs15 : HS Tryd.prog 15 1 8 := HS.of (by kernel_rfl)
theorem Tryd.ht15 : HT Tryd.prog 15 true := ⟨_, Tryd.underlying15, rfl⟩
theorem Tryd.hu15 : HU Tryd.prog 15 (.pointer 49) := ⟨Tryd.underlying15⟩
theorem Tryd.hz15 : HZ Tryd.prog 15 (.pointer none) := ⟨Tryd.zeroValue15⟩
theorem Tryd.hs16 : HS Tryd.prog 16 1 8 := HS.of (by kernel_rfl)
theorem Tryd.ht16 : HT Tryd.prog 16 true := ⟨_, Tryd.underlying16, rfl⟩
theorem Tryd.hu16 : HU Tryd.prog 16 (.pointer 52) := ⟨Tryd.underlying16⟩
theorem Tryd.hz16 : HZ Tryd.prog 16 (.pointer none) := ⟨Tryd.zeroValue16⟩
theorem Tryd.hs17 : HS Tryd.prog 17 1 8 := HS.of (by kernel_rfl)
theorem Tryd.ht17 : HT Tryd.prog 17 true := ⟨_, Tryd.underlying17, rfl⟩
theorem Tryd.hu17 : HU Tryd.prog 17 (.pointer 62) := ⟨Tryd.underlying17⟩
theorem Tryd.hz17 : HZ Tryd.prog 17 (.pointer none) := ⟨Tryd.zeroValue17⟩
theorem Tryd.hs18 : HS Tryd.prog 18 1 8 := HS.of (by kernel_rfl)
theorem Tryd.ht18 : HT Tryd.prog 18 false := ⟨_, Tryd.underlying18, rfl⟩
theorem Tryd.hd18_0 : HD Tryd.prog 18 0 17 0 := ⟨_, _, Tryd.underlying18, rfl, rfl, rfl⟩
theorem Tryd.hz18 : HZ Tryd.prog 18 (.agg #[.pointer none]) := ⟨Tryd.zeroValue18⟩
theorem Tryd.hs19 : HS Tryd.prog 19 1 8 := HS.of (by kernel_rfl)
theorem Tryd.ht19 : HT Tryd.prog 19 false := ⟨_, Tryd.underlying19, rfl⟩
theorem Tryd.hd19_0 : HD Tryd.prog 19 0 17 0 := ⟨_, _, Tryd.underlying19, rfl, rfl, rfl⟩
theorem Tryd.hz19 : HZ Tryd.prog 19 (.agg #[.pointer none]) := ⟨Tryd.zeroValue19⟩
theorem Tryd.hs20 : HS Tryd.prog 20 1 16 := HS.of (by kernel_rfl)
theorem Tryd.ht20 : HT Tryd.prog 20 true := ⟨_, Tryd.underlying20, rfl⟩
theorem Tryd.hi20 : HI Tryd.prog 20 := ⟨_, Tryd.underlying20⟩
theorem Tryd.hz20 : HZ Tryd.prog 20 (.nilIface) := ⟨Tryd.zeroValue20⟩
theorem Tryd.hs21 : HS Tryd.prog 21 1 4 := HS.of (by kernel_rfl)
theorem Tryd.ht21 : HT Tryd.prog 21 true := ⟨_, Tryd.underlying21, rfl⟩
theorem Tryd.hu21 : HU Tryd.prog 21 (.int .i32) := ⟨Tryd.underlying21⟩
theorem Tryd.hz21 : HZ Tryd.prog 21 (.int .i32 0) := ⟨Tryd.zeroValue21⟩
theorem Tryd.hs22 : HS Tryd.prog 22 1 8 := HS.of (by kernel_rfl)
theorem Tryd.ht22 : HT Tryd.prog 22 true := ⟨_, Tryd.underlying22, rfl⟩
theorem Tryd.hz22 : HZ Tryd.prog 22 (.nilFunc) := ⟨Tryd.zeroValue22⟩
theorem Tryd.hs23 : HS Tryd.prog 23 1 8 := HS.of (by kernel_rfl)
theorem Tryd.ht23 : HT Tryd.prog 23 true := ⟨_, Tryd.underlying23, rfl⟩
theorem Tryd.hu23 : HU Tryd.prog 23 (.int .i64) := ⟨Tryd.underlying23⟩
theorem Tryd.hz23 : HZ Tryd.prog 23 (.int .i64 0) := ⟨Tryd.zeroValue23⟩
theorem Tryd.hs24 : HS Tryd.prog 24 1 0 := HS.of (by kernel_rfl)
theorem Tryd.ht24 : HT Tryd.prog 24 true := ⟨_, Tryd.underlying24, rfl⟩
theorem Tryd.hs25 : HS Tryd.prog 25 1 8 := HS.of (by kernel_rfl)
theorem Tryd.ht25 : HT Tryd.prog 25 true := ⟨_, Tryd.underlying25, rfl⟩
theorem Tryd.hz25 : HZ Tryd.prog 25 (.nilFunc) := ⟨Tryd.zeroValue25⟩
theorem Tryd.hs26 : HS Tryd.prog 26 1 8 := HS.of (by kernel_rfl)
theorem Tryd.ht26 : HT Tryd.prog 26 true := ⟨_, Tryd.underlying26, rfl⟩
theorem Tryd.hz26 : HZ Tryd.prog 26 (.nilFunc) := ⟨Tryd.zeroValue26⟩
theorem Tryd.hs27 : HS Tryd.prog 27 1 24 := HS.of (by kernel_rfl)
theorem Tryd.ht27 : HT Tryd.prog 27 true := ⟨_, Tryd.underlying27, rfl⟩
theorem Tryd.hu27 : HU Tryd.prog 27 (.slice 5) := ⟨Tryd.underlying27⟩
theorem Tryd.hz27 : HZ Tryd.prog 27 (.slice none 0 0) := ⟨Tryd.zeroValue27⟩
theorem Tryd.hs28 : HS Tryd.prog 28 1 2 := HS.of (by kernel_rfl)
theorem Tryd.ht28 : HT Tryd.prog 28 true := ⟨_, Tryd.underlying28, rfl⟩
theorem Tryd.hu28 : HU Tryd.prog 28 (.int .u16) := ⟨Tryd.underlying28⟩
theorem Tryd.hz28 : HZ Tryd.prog 28 (.int .u16 0) := ⟨Tryd.zeroValue28⟩
theorem Tryd.hs29 : HS Tryd.prog 29 1 0 := HS.of (by kernel_rfl)
theorem Tryd.ht29 : HT Tryd.prog 29 true := ⟨_, Tryd.underlying29, rfl⟩
theorem Tryd.hs30 : HS Tryd.prog 30 1 8 := HS.of (by kernel_rfl)
theorem Tryd.ht30 : HT Tryd.prog 30 true := ⟨_, Tryd.underlying30, rfl⟩
theorem Tryd.hz30 : HZ Tryd.prog 30 (.nilFunc) := ⟨Tryd.zeroValue30⟩
theorem Tryd.hs31 : HS Tryd.prog 31 1 8 := HS.of (by kernel_rfl)
theorem Tryd.ht31 : HT Tryd.prog 31 true := ⟨_, Tryd.underlying31, rfl⟩
theorem Tryd.hz31 : HZ Tryd.prog 31 (.nilFunc) := ⟨Tryd.zeroValue31⟩
theorem Tryd.hs32 : HS Tryd.prog 32 1 8 := HS.of (by kernel_rfl)
theorem Tryd.ht32 : HT Tryd.prog 32 true := ⟨_, Tryd.underlying32, rfl⟩
theorem Tryd.hz32 : HZ Tryd.prog 32 (.nilFunc) := ⟨Tryd.zeroValue32⟩
theorem Tryd.hs33 : HS Tryd.prog 33 1 8 := HS.of (by kernel_rfl)
theorem Tryd.ht33 : HT Tryd.prog 33 true := ⟨_, Tryd.underlying33, rfl⟩
theorem Tryd.hu33 : HU Tryd.prog 33 (.int .u64) := ⟨Tryd.underlying33⟩
theorem Tryd.hz33 : HZ Tryd.prog 33 (.int .u64 0) := ⟨Tryd.zeroValue33⟩
theorem Tryd.hs34 : HS Tryd.prog 34 1 8 := HS.of (by kernel_rfl)
theorem Tryd.ht34 : HT Tryd.prog 34 true := ⟨_, Tryd.underlying34, rfl⟩
theorem Tryd.hz34 : HZ Tryd.prog 34 (.nilFunc) := ⟨Tryd.zeroValue34⟩
theorem Tryd.hs35 : HS Tryd.prog 35 1 8 := HS.of (by kernel_rfl)
theorem Tryd.ht35 : HT Tryd.prog 35 true := ⟨_, Tryd.underlying35, rfl⟩
theorem Tryd.hz35 : HZ Tryd.prog 35 (.nilFunc) := ⟨Tryd.zeroValue35⟩
theorem Tryd.hs36 : HS Tryd.prog 36 2 16 := HS.of (by kernel_rfl)
theorem Tryd.ht36 : HT Tryd.prog 36 false := ⟨_, Tryd.underlying36, rfl⟩
theorem Tryd.hu36 : HU Tryd.prog 36 (.array 2 3) := ⟨Tryd.underlying36⟩
theorem Tryd.hz36 : HZ Tryd.prog 36 (.agg #[.int .i64 0, .int .i64 0]) := ⟨Tryd.zeroValue36⟩
theorem Tryd.hs37 : HS Tryd.prog 37 1 24 := HS.of (by kernel_rfl)
theorem Tryd.ht37 : HT Tryd.prog 37 true := ⟨_, Tryd.underlying37, rfl⟩
theorem Tryd.hu37 : HU Tryd.prog 37 (.slice 36) := ⟨Tryd.underlying37⟩
theorem Tryd.hz37 : HZ Tryd.prog 37 (.slice none 0 0) := ⟨Tryd.zeroValue37⟩
theorem Tryd.hs38 : HS Tryd.prog 38 6 48 := HS.of (by kernel_rfl)
theorem Tryd.ht38 : HT Tryd.prog 38 false := ⟨_, Tryd.underlying38, rfl⟩
theorem Tryd.hu38 : HU Tryd.prog 38 (.array 6 3) := ⟨Tryd.underlying38⟩
theorem Tryd.hz38 : HZ Tryd.prog 38 (.agg (List.replicate 6 (.int .i64 0)).toArray) := ⟨Tryd.zeroValue38⟩
theorem Tryd.hs39 : HS Tryd.prog 39 1 8 := HS.of (by kernel_rfl)
theorem Tryd.ht39 : HT Tryd.prog 39 true := ⟨_, Tryd.underlying39, rfl⟩
theorem Tryd.hz39 : HZ Tryd.prog 39 (.nilFunc) := ⟨Tryd.zeroValue39⟩
theorem Tryd.hs40 : HS Tryd.prog 40 1 8 := HS.of (by kernel_rfl)
theorem Tryd.ht40 : HT Tryd.prog 40 true := ⟨_, Tryd.underlying40, rfl⟩
theorem Tryd.hz40 : HZ Tryd.prog 40 (.nilFunc) := ⟨Tryd.zeroValue40⟩
theorem Tryd.hs41 : HS Tryd.prog 41 1 8 := HS.of (by kernel_rfl)
theorem Tryd.ht41 : HT Tryd.prog 41 true := ⟨_, Tryd.underlying41, rfl⟩
theorem Tryd.hz41 : HZ Tryd.prog 41 (.nilFunc) := ⟨Tryd.zeroValue41⟩
theorem Tryd.hs42 : HS Tryd.prog 42 1 24 := HS.of (by kernel_rfl)
theorem Tryd.ht42 : HT Tryd.prog 42 true := ⟨_, Tryd.underlying42, rfl⟩
theorem Tryd.hu42 : HU Tryd.prog 42 (.slice 3) := ⟨Tryd.underlying42⟩
theorem Tryd.hz42 : HZ Tryd.prog 42 (.slice none 0 0) := ⟨Tryd.zeroValue42⟩
theorem Tryd.hs43 : HS Tryd.prog 43 1 8 := HS.of (by kernel_rfl)
theorem Tryd.ht43 : HT Tryd.prog 43 true := ⟨_, Tryd.underlying43, rfl⟩
theorem Tryd.hz43 : HZ Tryd.prog 43 (.nilFunc) := ⟨Tryd.zeroValue43⟩
theorem Tryd.hs44 : HS Tryd.prog 44 1 8 := HS.of (by kernel_rfl)
theorem Tryd.ht44 : HT Tryd.prog 44 true := ⟨_, Tryd.underlying44, rfl⟩
theorem Tryd.hz44 : HZ Tryd.prog 44 (.nilFunc) := ⟨Tryd.zeroValue44⟩
theorem Tryd.hs45 : HS Tryd.prog 45 1 8 := HS.of (by kernel_rfl)
theorem Tryd.ht45 : HT Tryd.prog 45 true := ⟨_, Tryd.underlying45, rfl⟩
theorem Tryd.hz45 : HZ Tryd.prog 45 (.nilFunc) := ⟨Tryd.zeroValue45⟩
theorem Tryd.hs46 : HS Tryd.prog 46 1 8 := HS.of (by kernel_rfl)
theorem Tryd.ht46 : HT Tryd.prog 46 true := ⟨_, Tryd.underlying46, rfl⟩
theorem Tryd.hz46 : HZ Tryd.prog 46 (.nilFunc) := ⟨Tryd.zeroValue46⟩
theorem Tryd.hs47 : HS Tryd.prog 47 1 8 := HS.of (by kernel_rfl)
theorem Tryd.ht47 : HT Tryd.prog 47 true := ⟨_, Tryd.underlying47, rfl⟩
theorem Tryd.hz47 : HZ Tryd.prog 47 (.nilFunc) := ⟨Tryd.zeroValue47⟩
theorem Tryd.hs48 : HS Tryd.prog 48 4 40 := HS.of (by kernel_rfl)
theorem Tryd.ht48 : HT Tryd.prog 48 false := ⟨_, Tryd.underlying48, rfl⟩
theorem Tryd.hd48_0 : HD Tryd.prog 48 0 17 0 := ⟨_, _, Tryd.underlying48, rfl, rfl, rfl⟩
theorem Tryd.hd48_1 : HD Tryd.prog 48 1 17 1 := ⟨_, _, Tryd.underlying48, rfl, rfl, rfl⟩
theorem Tryd.hd48_2 : HD Tryd.prog 48 2 17 2 := ⟨_, _, Tryd.underlying48, rfl, rfl, rfl⟩
theorem Tryd.hd48_3 : HD Tryd.prog 48 3 9 3 := ⟨_, _, Tryd.underlying48, rfl, rfl, rfl⟩
theorem Tryd.hz48 : HZ Tryd.prog 48 (.agg #[.pointer none, .pointer none, .pointer none, .string .empty]) := ⟨Tryd.zeroValue48⟩
theorem Tryd.hs49 : HS Tryd.prog 49 4 40 := HS.of (by kernel_rfl)
theorem Tryd.ht49 : HT Tryd.prog 49 false := ⟨_, Tryd.underlying49, rfl⟩
theorem Tryd.hd49_0 : HD Tryd.prog 49 0 17 0 := ⟨_, _, Tryd.underlying49, rfl, rfl, rfl⟩
theorem Tryd.hd49_1 : HD Tryd.prog 49 1 17 1 := ⟨_, _, Tryd.underlying49, rfl, rfl, rfl⟩
theorem Tryd.hd49_2 : HD Tryd.prog 49 2 17 2 := ⟨_, _, Tryd.underlying49, rfl, rfl, rfl⟩
theorem Tryd.hd49_3 : HD Tryd.prog 49 3 9 3 := ⟨_, _, Tryd.underlying49, rfl, rfl, rfl⟩
theorem Tryd.hz49 : HZ Tryd.prog 49 (.agg #[.pointer none, .pointer none, .pointer none, .string .empty]) := ⟨Tryd.zeroValue49⟩
theorem Tryd.hs50 : HS Tryd.prog 50 0 0 := HS.of (by kernel_rfl)
theorem Tryd.ht50 : HT Tryd.prog 50 false := ⟨_, Tryd.underlying50, rfl⟩
theorem Tryd.hu50 : HU Tryd.prog 50 (.array 0 16) := ⟨Tryd.underlying50⟩
theorem Tryd.hz50 : HZ Tryd.prog 50 (.agg #[]) := ⟨Tryd.zeroValue50⟩
theorem Tryd.hs51 : HS Tryd.prog 51 0 0 := HS.of (by kernel_rfl)
theorem Tryd.ht51 : HT Tryd.prog 51 false := ⟨_, Tryd.underlying51, rfl⟩
theorem Tryd.hd51_0 : HD Tryd.prog 51 0 50 0 := ⟨_, _, Tryd.underlying51, rfl, rfl, rfl⟩
theorem Tryd.hz51 : HZ Tryd.prog 51 (.agg #[]) := ⟨Tryd.zeroValue51⟩
theorem Tryd.hs52 : HS Tryd.prog 52 0 0 := HS.of (by kernel_rfl)
theorem Tryd.ht52 : HT Tryd.prog 52 false := ⟨_, Tryd.underlying52, rfl⟩
theorem Tryd.hd52_0 : HD Tryd.prog 52 0 50 0 := ⟨_, _, Tryd.underlying52, rfl, rfl, rfl⟩
theorem Tryd.hz52 : HZ Tryd.prog 52 (.agg #[]) := ⟨Tryd.zeroValue52⟩
theorem Tryd.hs53 : HS Tryd.prog 53 1 8 := HS.of (by kernel_rfl)
theorem Tryd.ht53 : HT Tryd.prog 53 true := ⟨_, Tryd.underlying53, rfl⟩
theorem Tryd.hz53 : HZ Tryd.prog 53 (.nilFunc) := ⟨Tryd.zeroValue53⟩
theorem Tryd.hs54 : HS Tryd.prog 54 1 4 := HS.of (by kernel_rfl)
theorem Tryd.ht54 : HT Tryd.prog 54 true := ⟨_, Tryd.underlying54, rfl⟩
theorem Tryd.hu54 : HU Tryd.prog 54 (.int .u32) := ⟨Tryd.underlying54⟩
theorem Tryd.hz54 : HZ Tryd.prog 54 (.int .u32 0) := ⟨Tryd.zeroValue54⟩
theorem Tryd.hs55 : HS Tryd.prog 55 1 1 := HS.of (by kernel_rfl)
theorem Tryd.ht55 : HT Tryd.prog 55 true := ⟨_, Tryd.underlying55, rfl⟩
theorem Tryd.hu55 : HU Tryd.prog 55 (.int .u8) := ⟨Tryd.underlying55⟩
theorem Tryd.hz55 : HZ Tryd.prog 55 (.int .u8 0) := ⟨Tryd.zeroValue55⟩
theorem Tryd.hs56 : HS Tryd.prog 56 1 1 := HS.of (by kernel_rfl)
theorem Tryd.ht56 : HT Tryd.prog 56 true := ⟨_, Tryd.underlying56, rfl⟩
theorem Tryd.hu56 : HU Tryd.prog 56 (.int .u8) := ⟨Tryd.underlying56⟩
theorem Tryd.hz56 : HZ Tryd.prog 56 (.int .u8 0) := ⟨Tryd.zeroValue56⟩
theorem Tryd.hs57 : HS Tryd.prog 57 1 8 := HS.of (by kernel_rfl)
theorem Tryd.ht57 : HT Tryd.prog 57 true := ⟨_, Tryd.underlying57, rfl⟩
theorem Tryd.hz57 : HZ Tryd.prog 57 (.nilFunc) := ⟨Tryd.zeroValue57⟩
theorem Tryd.hs58 : HS Tryd.prog 58 1 8 := HS.of (by kernel_rfl)
theorem Tryd.ht58 : HT Tryd.prog 58 true := ⟨_, Tryd.underlying58, rfl⟩
theorem Tryd.hu58 : HU Tryd.prog 58 (.pointer 5) := ⟨Tryd.underlying58⟩
theorem Tryd.hz58 : HZ Tryd.prog 58 (.pointer none) := ⟨Tryd.zeroValue58⟩
theorem Tryd.hs59 : HS Tryd.prog 59 1 4 := HS.of (by kernel_rfl)
theorem Tryd.ht59 : HT Tryd.prog 59 true := ⟨_, Tryd.underlying59, rfl⟩
theorem Tryd.hu59 : HU Tryd.prog 59 (.int .i32) := ⟨Tryd.underlying59⟩
theorem Tryd.hz59 : HZ Tryd.prog 59 (.int .i32 0) := ⟨Tryd.zeroValue59⟩
theorem Tryd.hs60 : HS Tryd.prog 60 1 4 := HS.of (by kernel_rfl)
theorem Tryd.ht60 : HT Tryd.prog 60 true := ⟨_, Tryd.underlying60, rfl⟩
theorem Tryd.hu60 : HU Tryd.prog 60 (.int .i32) := ⟨Tryd.underlying60⟩
theorem Tryd.hz60 : HZ Tryd.prog 60 (.int .i32 0) := ⟨Tryd.zeroValue60⟩
theorem Tryd.hs61 : HS Tryd.prog 61 11 48 := HS.of (by kernel_rfl)
theorem Tryd.ht61 : HT Tryd.prog 61 false := ⟨_, Tryd.underlying61, rfl⟩
theorem Tryd.hd61_0 : HD Tryd.prog 61 0 12 0 := ⟨_, _, Tryd.underlying61, rfl, rfl, rfl⟩
theorem Tryd.hd61_1 : HD Tryd.prog 61 1 12 1 := ⟨_, _, Tryd.underlying61, rfl, rfl, rfl⟩
theorem Tryd.hd61_2 : HD Tryd.prog 61 2 54 2 := ⟨_, _, Tryd.underlying61, rfl, rfl, rfl⟩
theorem Tryd.hd61_3 : HD Tryd.prog 61 3 55 3 := ⟨_, _, Tryd.underlying61, rfl, rfl, rfl⟩
theorem Tryd.hd61_4 : HD Tryd.prog 61 4 5 4 := ⟨_, _, Tryd.underlying61, rfl, rfl, rfl⟩
theorem Tryd.hd61_5 : HD Tryd.prog 61 5 5 5 := ⟨_, _, Tryd.underlying61, rfl, rfl, rfl⟩
theorem Tryd.hd61_6 : HD Tryd.prog 61 6 56 6 := ⟨_, _, Tryd.underlying61, rfl, rfl, rfl⟩
theorem Tryd.hd61_7 : HD Tryd.prog 61 7 57 7 := ⟨_, _, Tryd.underlying61, rfl, rfl, rfl⟩
theorem Tryd.hd61_8 : HD Tryd.prog 61 8 58 8 := ⟨_, _, Tryd.underlying61, rfl, rfl, rfl⟩
theorem Tryd.hd61_9 : HD Tryd.prog 61 9 59 9 := ⟨_, _, Tryd.underlying61, rfl, rfl, rfl⟩
theorem Tryd.hd61_10 : HD Tryd.prog 61 10 60 10 := ⟨_, _, Tryd.underlying61, rfl, rfl, rfl⟩
theorem Tryd.hz61 : HZ Tryd.prog 61 (.agg #[.int .u64 0, .int .u64 0, .int .u32 0, .int .u8 0, .int .u8 0, .int .u8 0, .int .u8 0, .nilFunc, .pointer none, .int .i32 0, .int .i32 0]) := ⟨Tryd.zeroValue61⟩
theorem Tryd.hs62 : HS Tryd.prog 62 11 48 := HS.of (by kernel_rfl)
theorem Tryd.ht62 : HT Tryd.prog 62 false := ⟨_, Tryd.underlying62, rfl⟩
theorem Tryd.hd62_0 : HD Tryd.prog 62 0 12 0 := ⟨_, _, Tryd.underlying62, rfl, rfl, rfl⟩
theorem Tryd.hd62_1 : HD Tryd.prog 62 1 12 1 := ⟨_, _, Tryd.underlying62, rfl, rfl, rfl⟩
theorem Tryd.hd62_2 : HD Tryd.prog 62 2 54 2 := ⟨_, _, Tryd.underlying62, rfl, rfl, rfl⟩
theorem Tryd.hd62_3 : HD Tryd.prog 62 3 55 3 := ⟨_, _, Tryd.underlying62, rfl, rfl, rfl⟩
theorem Tryd.hd62_4 : HD Tryd.prog 62 4 5 4 := ⟨_, _, Tryd.underlying62, rfl, rfl, rfl⟩
theorem Tryd.hd62_5 : HD Tryd.prog 62 5 5 5 := ⟨_, _, Tryd.underlying62, rfl, rfl, rfl⟩
theorem Tryd.hd62_6 : HD Tryd.prog 62 6 56 6 := ⟨_, _, Tryd.underlying62, rfl, rfl, rfl⟩
theorem Tryd.hd62_7 : HD Tryd.prog 62 7 57 7 := ⟨_, _, Tryd.underlying62, rfl, rfl, rfl⟩
theorem Tryd.hd62_8 : HD Tryd.prog 62 8 58 8 := ⟨_, _, Tryd.underlying62, rfl, rfl, rfl⟩
theorem Tryd.hd62_9 : HD Tryd.prog 62 9 59 9 := ⟨_, _, Tryd.underlying62, rfl, rfl, rfl⟩
theorem Tryd.hd62_10 : HD Tryd.prog 62 10 60 10 := ⟨_, _, Tryd.underlying62, rfl, rfl, rfl⟩
theorem Tryd.hz62 : HZ Tryd.prog 62 (.agg #[.int .u64 0, .int .u64 0, .int .u32 0, .int .u8 0, .int .u8 0, .int .u8 0, .int .u8 0, .nilFunc, .pointer none, .int .i32 0, .int .i32 0]) := ⟨Tryd.zeroValue62⟩
theorem Tryd.hf3 : HF Tryd.prog 3 := ⟨_, _, Tryd.func3, rfl, by decide⟩
theorem Tryd.hf4 : HF Tryd.prog 4 := ⟨_, _, Tryd.func4, rfl, by decide⟩
theorem Tryd.hf5 : HF Tryd.prog 5 := ⟨_, _, Tryd.func5, rfl, by decide⟩
theorem Tryd.hf6 : HF Tryd.prog 6 := ⟨_, _, Tryd.func6, rfl, by decide⟩
theorem Tryd.hf7 : HF Tryd.prog 7 := ⟨_, _, Tryd.func7, rfl, by decide⟩
theorem Tryd.hf8 : HF Tryd.prog 8 := ⟨_, _, Tryd.func8, rfl, by decide⟩
theorem Tryd.hf9 : HF Tryd.prog 9 := ⟨_, _, Tryd.func9, rfl, by decide⟩
theorem Tryd.hf10 : HF Tryd.prog 10 := ⟨_, _, Tryd.func10, rfl, by decide⟩
theorem Tryd.hf11 : HF Tryd.prog 11 := ⟨_, _, Tryd.func11, rfl, by decide⟩
theorem Tryd.hf12 : HF Tryd.prog 12 := ⟨_, _, Tryd.func12, rfl, by decide⟩
theorem Tryd.hf13 : HF Tryd.prog 13 := ⟨_, _, Tryd.func13, rfl, by decide⟩
theorem Tryd.hf14 : HF Tryd.prog 14 := ⟨_, _, Tryd.func14, rfl, by decide⟩
theorem Tryd.hf15 : HF Tryd.prog 15 := ⟨_, _, Tryd.func15, rfl, by decide⟩
theorem Tryd.hf16 : HF Tryd.prog 16 := ⟨_, _, Tryd.func16, rfl, by decide⟩
theorem Tryd.hf17 : HF Tryd.prog 17 := ⟨_, _, Tryd.func17, rfl, by decide⟩
theorem Tryd.hf18 : HF Tryd.prog 18 := ⟨_, _, Tryd.func18, rfl, by decide⟩
theorem Tryd.hf19 : HF Tryd.prog 19 := ⟨_, _, Tryd.func19, rfl, by decide⟩
theorem Tryd.hf20 : HF Tryd.prog 20 := ⟨_, _, Tryd.func20, rfl, by decide⟩
theorem Tryd.hf21 : HF Tryd.prog 21 := ⟨_, _, Tryd.func21, rfl, by decide⟩
theorem Tryd.hf22 : HF Tryd.prog 22 := ⟨_, _, Tryd.func22, rfl, by decide⟩
theorem Tryd.hf23 : HF Tryd.prog 23 := ⟨_, _, Tryd.func23, rfl, by decide⟩
theorem Tryd.hf24 : HF Tryd.prog 24 := ⟨_, _, Tryd.func24, rfl, by decide⟩
theorem Tryd.hf25 : HF Tryd.prog 25 := ⟨_, _, Tryd.func25, rfl, by decide⟩
attribute [instance] Tryd.hm Tryd.hs0 Tryd.ht0 Tryd.hs1 Tryd.ht1 Tryd.hz1 Tryd.hs2 Tryd.ht2 Tryd.hu2 Tryd.hz2 Tryd.hs3 Tryd.ht3
attribute [instance] Tryd.hu3 Tryd.hz3 Tryd.hs4 Tryd.ht4 Tryd.hu4 Tryd.hz4 Tryd.hs5 Tryd.ht5 Tryd.hu5 Tryd.hz5 Tryd.hs6 Tryd.ht6
attribute [instance] Tryd.hu6 Tryd.hz6 Tryd.hs7 Tryd.ht7 Tryd.hd7_0 Tryd.hd7_1 Tryd.hd7_2 Tryd.hd7_3 Tryd.hz7 Tryd.hs8 Tryd.ht8 Tryd.hd8_0
attribute [instance] Tryd.hd8_1 Tryd.hd8_2 Tryd.hd8_3 Tryd.hz8 Tryd.hs9 Tryd.ht9 Tryd.hu9 Tryd.hz9 Tryd.hs10 Tryd.ht10 Tryd.hu10 Tryd.hz10
attribute [instance] Tryd.hs11 Tryd.ht11 Tryd.hu11 Tryd.hz11 Tryd.hs12 Tryd.ht12 Tryd.hu12 Tryd.hz12 Tryd.hs13 Tryd.ht13 Tryd.hd13_0 Tryd.hd13_1
attribute [instance] Tryd.hz13 Tryd.hs14 Tryd.ht14 Tryd.hd14_0 Tryd.hd14_1 Tryd.hz14 Tryd.hs15 Tryd.ht15 Tryd.hu15 Tryd.hz15 Tryd.hs16 Tryd.ht16
attribute [instance] Tryd.hu16 Tryd.hz16 Tryd.hs17 Tryd.ht17 Tryd.hu17 Tryd.hz17 Tryd.hs18 Tryd.ht18 Tryd.hd18_0 Tryd.hz18 Tryd.hs19 Tryd.ht19
attribute [instance] Tryd.hd19_0 Tryd.hz19 Tryd.hs20 Tryd.ht20 Tryd.hi20 Tryd.hz20 Tryd.hs21 Tryd.ht21 Tryd.hu21 Tryd.hz21 Tryd.hs22 Tryd.ht22
attribute [instance] Tryd.hz22 Tryd.hs23 Tryd.ht23 Tryd.hu23 Tryd.hz23 Tryd.hs24 Tryd.ht24 Tryd.hs25 Tryd.ht25 Tryd.hz25 Tryd.hs26 Tryd.ht26
attribute [instance] Tryd.hz26 Tryd.hs27 Tryd.ht27 Tryd.hu27 Tryd.hz27 Tryd.hs28 Tryd.ht28 Tryd.hu28 Tryd.hz28 Tryd.hs29 Tryd.ht29 Tryd.hs30
attribute [instance] Tryd.ht30 Tryd.hz30 Tryd.hs31 Tryd.ht31 Tryd.hz31 Tryd.hs32 Tryd.ht32 Tryd.hz32 Tryd.hs33 Tryd.ht33 Tryd.hu33 Tryd.hz33
attribute [instance] Tryd.hs34 Tryd.ht34 Tryd.hz34 Tryd.hs35 Tryd.ht35 Tryd.hz35 Tryd.hs36 Tryd.ht36 Tryd.hu36 Tryd.hz36 Tryd.hs37 Tryd.ht37
attribute [instance] Tryd.hu37 Tryd.hz37 Tryd.hs38 Tryd.ht38 Tryd.hu38 Tryd.hz38 Tryd.hs39 Tryd.ht39 Tryd.hz39 Tryd.hs40 Tryd.ht40 Tryd.hz40
attribute [instance] Tryd.hs41 Tryd.ht41 Tryd.hz41 Tryd.hs42 Tryd.ht42 Tryd.hu42 Tryd.hz42 Tryd.hs43 Tryd.ht43 Tryd.hz43 Tryd.hs44 Tryd.ht44
attribute [instance] Tryd.hz44 Tryd.hs45 Tryd.ht45 Tryd.hz45 Tryd.hs46 Tryd.ht46 Tryd.hz46 Tryd.hs47 Tryd.ht47 Tryd.hz47 Tryd.hs48 Tryd.ht48
attribute [instance] Tryd.hd48_0 Tryd.hd48_1 Tryd.hd48_2 Tryd.hd48_3 Tryd.hz48 Tryd.hs49 Tryd.ht49 Tryd.hd49_0 Tryd.hd49_1 Tryd.hd49_2 Tryd.hd49_3 Tryd.hz49
attribute [instance] Tryd.hs50 Tryd.ht50 Tryd.hu50 Tryd.hz50 Tryd.hs51 Tryd.ht51 Tryd.hd51_0 Tryd.hz51 Tryd.hs52 Tryd.ht52 Tryd.hd52_0 Tryd.hz52
attribute [instance] Tryd.hs53 Tryd.ht53 Tryd.hz53 Tryd.hs54 Tryd.ht54 Tryd.hu54 Tryd.hz54 Tryd.hs55 Tryd.ht55 Tryd.hu55 Tryd.hz55 Tryd.hs56
attribute [instance] Tryd.ht56 Tryd.hu56 Tryd.hz56 Tryd.hs57 Tryd.ht57 Tryd.hz57 Tryd.hs58 Tryd.ht58 Tryd.hu58 Tryd.hz58 Tryd.hs59 Tryd.ht59
attribute [instance] Tryd.hu59 Tryd.hz59 Tryd.hs60 Tryd.ht60 Tryd.hu60 Tryd.hz60 Tryd.hs61 Tryd.ht61 Tryd.hd61_0 Tryd.hd61_1 Tryd.hd61_2 Tryd.hd61_3
attribute [instance] Tryd.hd61_4 Tryd.hd61_5 Tryd.hd61_6 Tryd.hd61_7 Tryd.hd61_8 Tryd.hd61_9 Tryd.hd61_10 Tryd.hz61 Tryd.hs62 Tryd.ht62 Tryd.hd62_0 Tryd.hd62_1
attribute [instance] Tryd.hd62_2 Tryd.hd62_3 Tryd.hd62_4 Tryd.hd62_5 Tryd.hd62_6 Tryd.hd62_7 Tryd.hd62_8 Tryd.hd62_9 Tryd.hd62_10 Tryd.hz62 Tryd.hf3 Tryd.hf4
attribute [instance] Tryd.hf5 Tryd.hf6 Tryd.hf7 Tryd.hf8 Tryd.hf9 Tryd.hf10 Tryd.hf11 Tryd.hf12 Tryd.hf13 Tryd.hf14 Tryd.hf15 Tryd.hf16
attribute [instance] Tryd.hf17 Tryd.hf18 Tryd.hf19 Tryd.hf20 Tryd.hf21 Tryd.hf22 Tryd.hf23 Tryd.hf24 Tryd.hf25
end Go.Proofs.YtnkomkfciojglaaDoor
