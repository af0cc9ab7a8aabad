/- ValueLimits: its tables out of the statement's condition. -/
import Derived.Test.YtdbmffagibnibaaGreatDoorVM
import Derived.Test.YtdbmffagibnibaaGreatDoorFfL
set_option linter.unusedSimpArgs false
set_option linter.unusedVariables false
namespace Go.Proofs.YtdbmffagibnibaaGreatDoor
open Go.RowKit Go.Lib Go.ChangeShapes Go.WideShapes Go.ChangeAt
set_option maxRecDepth 100000
theorem valueLimits_int (x0 x1 : Int) (W : World) (hL : laidMetH Tryz.prog Rows.valueLimitsRow.laid W) (p0 : 0 ≤ x0) (p9 : x0 ≤ 255) (n0 : 0 ≤ x1) (n9 : x1 ≤ 255) :
    Calls Tryz.prog 5 #[.int .u8 x0, .int .u8 x1] W (fun e w' => e = .returned (.bool true) ∧ Below W.heap.size W w') :=
  valueLimits_walk x0 x1 W (known_true W (laidTables hL).1 (laidTables hL).2) p0 p9 n0 n9
end Go.Proofs.YtdbmffagibnibaaGreatDoor
