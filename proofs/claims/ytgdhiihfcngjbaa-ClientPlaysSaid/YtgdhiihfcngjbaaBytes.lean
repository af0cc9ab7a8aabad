/- slices.Clone at bytes, string(bytes), append of bytes. -/
import Derived.Test.YtgdhiihfcngjbaaRows
import Derived.Test.YtgdhiihfcngjbaaKit
set_option linter.unusedSimpArgs false
set_option linter.unusedVariables false
namespace Go.Proofs.Ytgdhiihfcngjbaa
open Go.RowKit

theorem info_u8 : (Try.prog.info? 5).map (fun i => (i.zero, i.size, i.bytes)) = some (some (.int .u8 0), 1, 1) := by kernel_rfl

/-! ### slices.Clone, slices.Clip at bytes -/

def NewBytes (w : World) (bs : List UInt8) (e : Ending) (w' : World) : Prop :=
  ∃ A' c', e = .returned (.slice A' bs.length c') ∧ Own w' 5 1 A' bs.length c' (bys bs) ∧ Below w.heap.size w w' ∧ ∀ g, bOf A' = some g → w.heap.size ≤ g

end Go.Proofs.Ytgdhiihfcngjbaa
