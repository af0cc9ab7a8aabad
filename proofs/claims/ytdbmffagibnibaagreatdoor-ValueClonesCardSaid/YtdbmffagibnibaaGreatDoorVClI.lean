/- ValueClones: its tables out of the statement's condition. -/
import Derived.Test.YtdbmffagibnibaaGreatDoorVCl
import Derived.Test.YtdbmffagibnibaaGreatDoorFfL
import Derived.Test.YtdbmffagibnibaaGreatDoorValArg
set_option linter.unusedSimpArgs false
set_option linter.unusedVariables false
namespace Go.Proofs.YtdbmffagibnibaaGreatDoor
open Go.RowKit Go.Lib Go.ChangeShapes Go.WideShapes Go.ChangeAt
set_option maxRecDepth 100000
theorem valueClones_int {A0 : Option Addr} {c0 : Nat} {l : List Val} {xs : List Value} {css : Nat → Array Value} (W : World) (hL : laidMetH Tryz.prog Rows.valueClonesRow.laid W)
    (hr : Reads W W.heap.size 5 A0 l.length xs) (vr : ∀ (j : Nat) (v : Val), l[j]? = some v → VReads W W.heap.size v (css j)) (hx : ∀ j, j < l.length → (xs.drop (j * 5)).take 5 = (css j).toList) (ok : ∀ v, v ∈ l → OkV v) (hl : l.length ≤ 140737488351232) :
    Calls Tryz.prog 8 #[.slice A0 l.length c0] W (fun e w' => e = .returned (.bool true) ∧ Below W.heap.size W w') :=
  valueClones_walk W (known_true W (laidTables hL).1 (laidTables hL).2) hr vr hx ok hl
end Go.Proofs.YtdbmffagibnibaaGreatDoor
