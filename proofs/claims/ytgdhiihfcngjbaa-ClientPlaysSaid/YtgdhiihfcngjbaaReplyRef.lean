/- choirref3.ReadReply at any bytes. -/
import Derived.Test.YtgdhiihfcngjbaaIdRef
set_option linter.unusedSimpArgs false
set_option linter.unusedVariables false
namespace Go.Proofs.Ytgdhiihfcngjbaa
open Go.RowKit
set_option maxRecDepth 100000

theorem Blk.val5 {w : World} {g : Nat} {t : TypeId} {a b c d e : Value} (h : Blk w g t #[a, b, c, d, e]) : w.cell? ⟨g, 0, none⟩ = some a ∧ w.cell? ⟨g, 1, none⟩ = some b ∧ w.cell? ⟨g, 2, none⟩ = some c ∧ w.cell? ⟨g, 3, none⟩ = some d ∧ w.cell? ⟨g, 4, none⟩ = some e := ⟨h.cell 0, h.cell 1, h.cell 2, h.cell 3, h.cell 4⟩

theorem w64_16 {e : Nat} (h : e < 65536) : IntKind.i64.wrap (e : Int) = (e : Int) := w64_id _ (by omega) (by omega)
theorem w64_12 {m : Nat} (h : m ≤ 1000000000) : IntKind.i64.wrap (12 + (m : Int)) = 12 + (m : Int) := w64_id _ (by omega) (by omega)

end Go.Proofs.Ytgdhiihfcngjbaa
