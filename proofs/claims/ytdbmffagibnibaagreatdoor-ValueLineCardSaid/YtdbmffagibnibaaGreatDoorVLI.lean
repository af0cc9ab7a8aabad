/- ValueLine: its tables out of the statement's condition. -/
import Derived.Test.YtdbmffagibnibaaGreatDoorVL
import Derived.Test.YtdbmffagibnibaaGreatDoorFfL
import Derived.Test.YtdbmffagibnibaaGreatDoorValArg
set_option linter.unusedSimpArgs false
set_option linter.unusedVariables false
namespace Go.Proofs.YtdbmffagibnibaaGreatDoor
open Go.RowKit Go.Lib Go.ChangeShapes Go.WideShapes Go.ChangeAt
set_option maxRecDepth 100000
theorem valueLine_int (a b c : Val) (ca cb' cc : Array Value) (W : World) (hL : laidMetH Tryz.prog Rows.valueLineRow.laid W) (ha : VReads W W.heap.size a ca) (oa : OkV a) (hb : VReads W W.heap.size b cb') (ob : OkV b) (hc : VReads W W.heap.size c cc) (oc : OkV c) :
    Calls Tryz.prog 3 #[.agg ca, .agg cb', .agg cc] W (fun e w' => e = .returned (.bool true) ∧ Below W.heap.size W w') :=
  valueLine_walk a b c ca cb' cc W (laidTables hL).1 (laidTables hL).2 ha hb hc oa ob oc
end Go.Proofs.YtdbmffagibnibaaGreatDoor
