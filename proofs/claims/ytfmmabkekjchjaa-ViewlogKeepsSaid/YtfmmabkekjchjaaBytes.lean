/- slices.Clone at bytes, string(bytes), append of bytes. -/
import Derived.Test.YtfmmabkekjchjaaRows
import Derived.Test.YtfmmabkekjchjaaKit
set_option linter.unusedSimpArgs false
set_option linter.unusedVariables false
namespace Go.Proofs.Ytfmmabkekjchjaa
open Go.RowKit

theorem info_u8 : (Try.prog.info? 5).map (fun i => (i.zero, i.size, i.bytes)) = some (some (.int .u8 0), 1, 1) := by kernel_rfl

/-! ### slices.Clone, slices.Clip at bytes -/

def NewBytes (w : World) (bs : List UInt8) (e : Ending) (w' : World) : Prop :=
  ∃ A' c', e = .returned (.slice A' bs.length c') ∧ Own w' 5 1 A' bs.length c' (bys bs) ∧ Below w.heap.size w w' ∧ ∀ g, bOf A' = some g → w.heap.size ≤ g

theorem conv_bytes {n c B : Nat} {A : Option Addr} {bs : List UInt8} {w : World} (h : Reads w B 1 A n (bys bs)) : (convert 25 9 (.slice A n c)).run Try.prog w = .ok (.string (bstr bs)) w :=
  run_bytes_str (P := Try.prog) 25 5 Try.underlying25 Try.underlying5 9 Try.underlying9 c h

end Go.Proofs.Ytfmmabkekjchjaa
