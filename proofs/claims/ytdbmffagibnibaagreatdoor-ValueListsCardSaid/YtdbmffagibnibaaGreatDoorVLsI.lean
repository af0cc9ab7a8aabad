/- ValueLists: its tables out of the statement's condition. -/
import Derived.Test.YtdbmffagibnibaaGreatDoorVLs
import Derived.Test.YtdbmffagibnibaaGreatDoorFfL
import Derived.Test.YtdbmffagibnibaaGreatDoorValArg
set_option linter.unusedSimpArgs false
set_option linter.unusedVariables false
namespace Go.Proofs.YtdbmffagibnibaaGreatDoor
open Go.RowKit Go.Lib Go.ChangeShapes Go.WideShapes Go.ChangeAt
set_option maxRecDepth 100000
theorem valueLists_int {A0 : Option Addr} {c0 : Nat} {l : List Val} {xs : List Value} {css : Nat → Array Value} (x1 : Int) (u : Val) (cu : Array Value) (W : World) (hL : laidMetH Tryz.prog Rows.valueListsRow.laid W)
    (hr : Reads W W.heap.size 5 A0 l.length xs) (vr : ∀ (j : Nat) (v : Val), l[j]? = some v → VReads W W.heap.size v (css j)) (hx : ∀ j, j < l.length → (xs.drop (j * 5)).take 5 = (css j).toList) (ok : ∀ v, v ∈ l → OkV v) (hl : l.length ≤ 140737488351232) (hlc : l.length ≤ c0)
    (hu : VReads W W.heap.size u cu) (ou : OkV u) (n0 : 0 ≤ x1) (n1 : x1 ≤ 255) :
    Calls Tryz.prog 6 #[.slice A0 l.length c0, .int .u8 x1, .agg cu] W (fun e w' => e = .returned (.bool true) ∧ Below W.heap.size W w') :=
  valueLists_walk x1 u cu W (fun W' hb => known_true W' ((laidTables hL).1.next hb) ((laidTables hL).2.next hb)) hr vr hx ok hl hlc hu ou n0 n1
end Go.Proofs.YtdbmffagibnibaaGreatDoor
