/- What is so of the types of the program: sizes, zeros, fields; nothing is assumed. -/
import Derived.Test.YtjbgfihkdeeonaaChecked
import Derived.Test.YtjbgfihkdeeonaaAmSixteen
import Derived.KernelRfl
open Go Go.Am Go.RowKit
namespace Go.Proofs.Ytjbgfihkdeeonaa

theorem mixed : Try.prog.follows .mixedOrders = true := by kernel_rfl
/- type 3: int -/
theorem cs3 : Try.prog.cellsOf 3 = 1 := by kernel_rfl
theorem ag3 : Try.prog.aggT 3 = false := by kernel_rfl
theorem zk3 : Try.prog.zOk 3 = true := by kernel_rfl
theorem ri3 : Try.prog.rowI 3 = { e := 3, sz := 1, ag := false } := by kernel_rfl
theorem zo3 : Try.prog.zeroOf 3 = some (.int .i64 0) := by kernel_rfl
/- type 4: bool -/
theorem cs4 : Try.prog.cellsOf 4 = 1 := by kernel_rfl
theorem ag4 : Try.prog.aggT 4 = false := by kernel_rfl
theorem zk4 : Try.prog.zOk 4 = true := by kernel_rfl
theorem ri4 : Try.prog.rowI 4 = { e := 4, sz := 1, ag := false } := by kernel_rfl
theorem zo4 : Try.prog.zeroOf 4 = some (.bool false) := by kernel_rfl
/- type 5: uint8 -/
theorem cs5 : Try.prog.cellsOf 5 = 1 := by kernel_rfl
theorem ag5 : Try.prog.aggT 5 = false := by kernel_rfl
theorem zk5 : Try.prog.zOk 5 = true := by kernel_rfl
theorem ri5 : Try.prog.rowI 5 = { e := 5, sz := 1, ag := false } := by kernel_rfl
theorem zo5 : Try.prog.zeroOf 5 = some (.int .u8 0) := by kernel_rfl
/- type 22: []uint8 -/
theorem cs22 : Try.prog.cellsOf 22 = 1 := by kernel_rfl
theorem ag22 : Try.prog.aggT 22 = false := by kernel_rfl
theorem zk22 : Try.prog.zOk 22 = true := by kernel_rfl
theorem ri22 : Try.prog.rowI 22 = { e := 22, sz := 1, ag := false } := by kernel_rfl
theorem zo22 : Try.prog.zeroOf 22 = some (.slice none 0 0) := by kernel_rfl
/- type 23: []wireloomref51.Step -/
theorem cs23 : Try.prog.cellsOf 23 = 1 := by kernel_rfl
theorem ag23 : Try.prog.aggT 23 = false := by kernel_rfl
theorem zk23 : Try.prog.zOk 23 = true := by kernel_rfl
theorem ri23 : Try.prog.rowI 23 = { e := 23, sz := 1, ag := false } := by kernel_rfl
theorem zo23 : Try.prog.zeroOf 23 = some (.slice none 0 0) := by kernel_rfl
/- type 25: wireloomref51.Raw = wireloom/wireloomref51.Raw -/
theorem cs25 : Try.prog.cellsOf 25 = 3 := by kernel_rfl
theorem ag25 : Try.prog.aggT 25 = true := by kernel_rfl
theorem zk25 : Try.prog.zOk 25 = true := by kernel_rfl
theorem ri25 : Try.prog.rowI 25 = { e := 25, sz := 3, ag := true } := by kernel_rfl
theorem zo25 : Try.prog.zeroOf 25 = some (.agg #[.slice none 0 0, .int .u8 0, .slice none 0 0]) := by kernel_rfl
theorem fk25 : Try.prog.fieldsOk 25 = true := by kernel_rfl
theorem fo25_0 : Try.prog.fieldOf 25 0 = some (0, 22) := by kernel_rfl
theorem fp25_0 : fplace Try.prog 25 0 = some (0, 1) := by kernel_rfl
theorem fo25_1 : Try.prog.fieldOf 25 1 = some (1, 5) := by kernel_rfl
theorem fp25_1 : fplace Try.prog 25 1 = some (1, 1) := by kernel_rfl
theorem fo25_2 : Try.prog.fieldOf 25 2 = some (2, 23) := by kernel_rfl
theorem fp25_2 : fplace Try.prog 25 2 = some (2, 1) := by kernel_rfl
/- type 26: [][]int -/
theorem cs26 : Try.prog.cellsOf 26 = 1 := by kernel_rfl
theorem ag26 : Try.prog.aggT 26 = false := by kernel_rfl
theorem zk26 : Try.prog.zOk 26 = true := by kernel_rfl
theorem ri26 : Try.prog.rowI 26 = { e := 26, sz := 1, ag := false } := by kernel_rfl
theorem zo26 : Try.prog.zeroOf 26 = some (.slice none 0 0) := by kernel_rfl
/- type 27: []int -/
theorem cs27 : Try.prog.cellsOf 27 = 1 := by kernel_rfl
theorem ag27 : Try.prog.aggT 27 = false := by kernel_rfl
theorem zk27 : Try.prog.zOk 27 = true := by kernel_rfl
theorem ri27 : Try.prog.rowI 27 = { e := 27, sz := 1, ag := false } := by kernel_rfl
theorem zo27 : Try.prog.zeroOf 27 = some (.slice none 0 0) := by kernel_rfl
/- type 29: api.Rollout = wireloom/api.Rollout -/
theorem cs29 : Try.prog.cellsOf 29 = 7 := by kernel_rfl
theorem ag29 : Try.prog.aggT 29 = true := by kernel_rfl
theorem zk29 : Try.prog.zOk 29 = true := by kernel_rfl
theorem ri29 : Try.prog.rowI 29 = { e := 29, sz := 7, ag := true } := by kernel_rfl
theorem zo29 : Try.prog.zeroOf 29 = some (.agg #[.int .i64 0, .int .i64 0, .slice none 0 0, .int .i64 0, .int .i64 0, .slice none 0 0, .int .i64 0]) := by kernel_rfl
theorem fk29 : Try.prog.fieldsOk 29 = true := by kernel_rfl
theorem fo29_0 : Try.prog.fieldOf 29 0 = some (0, 3) := by kernel_rfl
theorem fp29_0 : fplace Try.prog 29 0 = some (0, 1) := by kernel_rfl
theorem fo29_1 : Try.prog.fieldOf 29 1 = some (1, 3) := by kernel_rfl
theorem fp29_1 : fplace Try.prog 29 1 = some (1, 1) := by kernel_rfl
theorem fo29_2 : Try.prog.fieldOf 29 2 = some (2, 26) := by kernel_rfl
theorem fp29_2 : fplace Try.prog 29 2 = some (2, 1) := by kernel_rfl
theorem fo29_3 : Try.prog.fieldOf 29 3 = some (3, 3) := by kernel_rfl
theorem fp29_3 : fplace Try.prog 29 3 = some (3, 1) := by kernel_rfl
theorem fo29_4 : Try.prog.fieldOf 29 4 = some (4, 3) := by kernel_rfl
theorem fp29_4 : fplace Try.prog 29 4 = some (4, 1) := by kernel_rfl
theorem fo29_5 : Try.prog.fieldOf 29 5 = some (5, 27) := by kernel_rfl
theorem fp29_5 : fplace Try.prog 29 5 = some (5, 1) := by kernel_rfl
theorem fo29_6 : Try.prog.fieldOf 29 6 = some (6, 3) := by kernel_rfl
theorem fp29_6 : fplace Try.prog 29 6 = some (6, 1) := by kernel_rfl
/- type 31: api.Report = wireloom/api.Report -/
theorem cs31 : Try.prog.cellsOf 31 = 5 := by kernel_rfl
theorem ag31 : Try.prog.aggT 31 = true := by kernel_rfl
theorem zk31 : Try.prog.zOk 31 = true := by kernel_rfl
theorem ri31 : Try.prog.rowI 31 = { e := 31, sz := 5, ag := true } := by kernel_rfl
theorem zo31 : Try.prog.zeroOf 31 = some (.agg #[.int .i64 0, .int .i64 0, .int .i64 0, .bool false, .bool false]) := by kernel_rfl
theorem fk31 : Try.prog.fieldsOk 31 = true := by kernel_rfl
theorem fo31_0 : Try.prog.fieldOf 31 0 = some (0, 3) := by kernel_rfl
theorem fp31_0 : fplace Try.prog 31 0 = some (0, 1) := by kernel_rfl
theorem fo31_1 : Try.prog.fieldOf 31 1 = some (1, 3) := by kernel_rfl
theorem fp31_1 : fplace Try.prog 31 1 = some (1, 1) := by kernel_rfl
theorem fo31_2 : Try.prog.fieldOf 31 2 = some (2, 3) := by kernel_rfl
theorem fp31_2 : fplace Try.prog 31 2 = some (2, 1) := by kernel_rfl
theorem fo31_3 : Try.prog.fieldOf 31 3 = some (3, 4) := by kernel_rfl
theorem fp31_3 : fplace Try.prog 31 3 = some (3, 1) := by kernel_rfl
theorem fo31_4 : Try.prog.fieldOf 31 4 = some (4, 4) := by kernel_rfl
theorem fp31_4 : fplace Try.prog 31 4 = some (4, 1) := by kernel_rfl
/- type 35: wireloomref51.Plan = wireloom/wireloomref51.Plan -/
theorem cs35 : Try.prog.cellsOf 35 = 4 := by kernel_rfl
theorem ag35 : Try.prog.aggT 35 = true := by kernel_rfl
theorem zk35 : Try.prog.zOk 35 = true := by kernel_rfl
theorem ri35 : Try.prog.rowI 35 = { e := 35, sz := 4, ag := true } := by kernel_rfl
theorem zo35 : Try.prog.zeroOf 35 = some (.agg #[.int .i64 0, .int .i64 0, .slice none 0 0, .int .i64 0]) := by kernel_rfl
theorem fk35 : Try.prog.fieldsOk 35 = true := by kernel_rfl
theorem fo35_0 : Try.prog.fieldOf 35 0 = some (0, 3) := by kernel_rfl
theorem fp35_0 : fplace Try.prog 35 0 = some (0, 1) := by kernel_rfl
theorem fo35_1 : Try.prog.fieldOf 35 1 = some (1, 3) := by kernel_rfl
theorem fp35_1 : fplace Try.prog 35 1 = some (1, 1) := by kernel_rfl
theorem fo35_2 : Try.prog.fieldOf 35 2 = some (2, 26) := by kernel_rfl
theorem fp35_2 : fplace Try.prog 35 2 = some (2, 1) := by kernel_rfl
theorem fo35_3 : Try.prog.fieldOf 35 3 = some (3, 3) := by kernel_rfl
theorem fp35_3 : fplace Try.prog 35 3 = some (3, 1) := by kernel_rfl
/- type 38: api.Errno = wireloom/api.Errno -/
theorem cs38 : Try.prog.cellsOf 38 = 1 := by kernel_rfl
theorem ag38 : Try.prog.aggT 38 = false := by kernel_rfl
theorem zk38 : Try.prog.zOk 38 = true := by kernel_rfl
theorem ri38 : Try.prog.rowI 38 = { e := 38, sz := 1, ag := false } := by kernel_rfl
theorem zo38 : Try.prog.zeroOf 38 = some (.int .i64 0) := by kernel_rfl
/- type 40: wireloomref51.Got = wireloom/wireloomref51.Got -/
theorem cs40 : Try.prog.cellsOf 40 = 8 := by kernel_rfl
theorem ag40 : Try.prog.aggT 40 = true := by kernel_rfl
theorem zk40 : Try.prog.zOk 40 = true := by kernel_rfl
theorem ri40 : Try.prog.rowI 40 = { e := 40, sz := 8, ag := true } := by kernel_rfl
theorem zo40 : Try.prog.zeroOf 40 = some (.agg #[.int .i64 0, .int .i64 0, .slice none 0 0, .int .i64 0, .int .i64 0, .slice none 0 0, .int .i64 0, .int .i64 0]) := by kernel_rfl
theorem fk40 : Try.prog.fieldsOk 40 = true := by kernel_rfl
theorem fo40_0 : Try.prog.fieldOf 40 0 = some (0, 29) := by kernel_rfl
theorem fp40_0 : fplace Try.prog 40 0 = some (0, 7) := by kernel_rfl
theorem fo40_1 : Try.prog.fieldOf 40 1 = some (7, 38) := by kernel_rfl
theorem fp40_1 : fplace Try.prog 40 1 = some (7, 1) := by kernel_rfl
/- type 42: []api.Rollout -/
theorem cs42 : Try.prog.cellsOf 42 = 1 := by kernel_rfl
theorem ag42 : Try.prog.aggT 42 = false := by kernel_rfl
theorem zk42 : Try.prog.zOk 42 = true := by kernel_rfl
theorem ri42 : Try.prog.rowI 42 = { e := 42, sz := 1, ag := false } := by kernel_rfl
theorem zo42 : Try.prog.zeroOf 42 = some (.slice none 0 0) := by kernel_rfl
/- type 45: wireloomref51.Step = wireloom/wireloomref51.Step -/
theorem cs45 : Try.prog.cellsOf 45 = 6 := by kernel_rfl
theorem ag45 : Try.prog.aggT 45 = true := by kernel_rfl
theorem zk45 : Try.prog.zOk 45 = true := by kernel_rfl
theorem ri45 : Try.prog.rowI 45 = { e := 45, sz := 6, ag := true } := by kernel_rfl
theorem zo45 : Try.prog.zeroOf 45 = some (.agg #[.int .u8 0, .int .u8 0, .int .u8 0, .bool false, .bool false, .bool false]) := by kernel_rfl
theorem fk45 : Try.prog.fieldsOk 45 = true := by kernel_rfl
theorem fo45_0 : Try.prog.fieldOf 45 0 = some (0, 5) := by kernel_rfl
theorem fp45_0 : fplace Try.prog 45 0 = some (0, 1) := by kernel_rfl
theorem fo45_1 : Try.prog.fieldOf 45 1 = some (1, 5) := by kernel_rfl
theorem fp45_1 : fplace Try.prog 45 1 = some (1, 1) := by kernel_rfl
theorem fo45_2 : Try.prog.fieldOf 45 2 = some (2, 5) := by kernel_rfl
theorem fp45_2 : fplace Try.prog 45 2 = some (2, 1) := by kernel_rfl
theorem fo45_3 : Try.prog.fieldOf 45 3 = some (3, 4) := by kernel_rfl
theorem fp45_3 : fplace Try.prog 45 3 = some (3, 1) := by kernel_rfl
theorem fo45_4 : Try.prog.fieldOf 45 4 = some (4, 4) := by kernel_rfl
theorem fp45_4 : fplace Try.prog 45 4 = some (4, 1) := by kernel_rfl
theorem fo45_5 : Try.prog.fieldOf 45 5 = some (5, 4) := by kernel_rfl
theorem fp45_5 : fplace Try.prog 45 5 = some (5, 1) := by kernel_rfl
/- type 55: [2]wireloomref51.Step -/
theorem cs55 : Try.prog.cellsOf 55 = 12 := by kernel_rfl
theorem ag55 : Try.prog.aggT 55 = true := by kernel_rfl
theorem zk55 : Try.prog.zOk 55 = true := by kernel_rfl
theorem ri55 : Try.prog.rowI 55 = { e := 55, sz := 12, ag := true } := by kernel_rfl
theorem zo55 : Try.prog.zeroOf 55 = some (.agg #[.int .u8 0, .int .u8 0, .int .u8 0, .bool false, .bool false, .bool false, .int .u8 0, .int .u8 0, .int .u8 0, .bool false, .bool false, .bool false]) := by kernel_rfl
theorem fk55 : Try.prog.fieldsOk 55 = true := by kernel_rfl
theorem fp55_0 : fplace Try.prog 55 0 = some (0, 6) := by kernel_rfl
theorem fp55_1 : fplace Try.prog 55 1 = some (6, 6) := by kernel_rfl
/- type 61: [2]uint8 -/
theorem cs61 : Try.prog.cellsOf 61 = 2 := by kernel_rfl
theorem ag61 : Try.prog.aggT 61 = true := by kernel_rfl
theorem zk61 : Try.prog.zOk 61 = true := by kernel_rfl
theorem ri61 : Try.prog.rowI 61 = { e := 61, sz := 2, ag := true } := by kernel_rfl
theorem zo61 : Try.prog.zeroOf 61 = some (.agg #[.int .u8 0, .int .u8 0]) := by kernel_rfl
theorem fk61 : Try.prog.fieldsOk 61 = true := by kernel_rfl
theorem fp61_0 : fplace Try.prog 61 0 = some (0, 1) := by kernel_rfl
theorem fp61_1 : fplace Try.prog 61 1 = some (1, 1) := by kernel_rfl
/- type 66: rollout.set = wireloom/rollout.set -/
theorem cs66 : Try.prog.cellsOf 66 = 1 := by kernel_rfl
theorem ag66 : Try.prog.aggT 66 = false := by kernel_rfl
theorem zk66 : Try.prog.zOk 66 = true := by kernel_rfl
theorem ri66 : Try.prog.rowI 66 = { e := 66, sz := 1, ag := false } := by kernel_rfl
theorem zo66 : Try.prog.zeroOf 66 = some (.map none) := by kernel_rfl
/- type 82: rollout.effect = wireloom/rollout.effect -/
theorem cs82 : Try.prog.cellsOf 82 = 1 := by kernel_rfl
theorem ag82 : Try.prog.aggT 82 = true := by kernel_rfl
theorem zk82 : Try.prog.zOk 82 = true := by kernel_rfl
theorem ri82 : Try.prog.rowI 82 = { e := 82, sz := 1, ag := true } := by kernel_rfl
theorem zo82 : Try.prog.zeroOf 82 = some (.agg #[.nilFunc]) := by kernel_rfl
theorem fk82 : Try.prog.fieldsOk 82 = true := by kernel_rfl
theorem fo82_0 : Try.prog.fieldOf 82 0 = some (0, 74) := by kernel_rfl
theorem fp82_0 : fplace Try.prog 82 0 = some (0, 1) := by kernel_rfl
/- type 83: [5]rollout.effect -/
theorem cs83 : Try.prog.cellsOf 83 = 5 := by kernel_rfl
theorem ag83 : Try.prog.aggT 83 = true := by kernel_rfl
theorem zk83 : Try.prog.zOk 83 = true := by kernel_rfl
theorem ri83 : Try.prog.rowI 83 = { e := 83, sz := 5, ag := true } := by kernel_rfl
theorem zo83 : Try.prog.zeroOf 83 = some (.agg #[.nilFunc, .nilFunc, .nilFunc, .nilFunc, .nilFunc]) := by kernel_rfl
theorem fk83 : Try.prog.fieldsOk 83 = true := by kernel_rfl
theorem fp83_0 : fplace Try.prog 83 0 = some (0, 1) := by kernel_rfl
theorem fp83_1 : fplace Try.prog 83 1 = some (1, 1) := by kernel_rfl
theorem fp83_2 : fplace Try.prog 83 2 = some (2, 1) := by kernel_rfl
theorem fp83_3 : fplace Try.prog 83 3 = some (3, 1) := by kernel_rfl
theorem fp83_4 : fplace Try.prog 83 4 = some (4, 1) := by kernel_rfl

end Go.Proofs.Ytjbgfihkdeeonaa
