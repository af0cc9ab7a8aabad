/- choirseat.Admin. -/
import Derived.Test.YtgdhiihfcngjbaaSt5
set_option linter.unusedSimpArgs false
set_option linter.unusedVariables false
namespace Go.Proofs.Ytgdhiihfcngjbaa
open Go.RowKit
set_option maxRecDepth 100000

/-- A call as the seat makes it, its arguments in new memory. -/
def OpS (w : World) (e : Ending) (w' : World) : Prop :=
  ∃ (gg mm : ByteArray) (l : List Val) (A : Option Addr) (c : Nat), e = .returned (.agg #[.int .u32 0, .int .u32 0, .int .u16 0, .string gg, .string mm, .slice A l.length c]) ∧ gg.size ≤ 8 ∧ mm.size ≤ 8 ∧ (∃ xs css, VRow w' w.heap.size l A c xs css) ∧ (∀ v ∈ l, SeatV 2 1102 v) ∧ l.length ≤ 6 ∧ Below w.heap.size w w'

end Go.Proofs.Ytgdhiihfcngjbaa
