/- What is put is read back cleaned: calls, replies. Plain. -/
import Derived.Test.YtgdhiihfcngjbaaOpB
set_option linter.unusedSimpArgs false
set_option linter.unusedVariables false
namespace Go.Proofs.Ytgdhiihfcngjbaa
open Go.RowKit
set_option maxRecDepth 100000

theorem putU_back (v k : Nat) (h : v < 256 ^ k) : readU (putU v k) = v := by rw [readU_put]; exact Nat.mod_eq_of_lt h

theorem drop_at {b x y : List UInt8} {a n m : Nat} (h : b.drop a = x ++ y) (hx : x.length = n) (hm : a + n = m) : b.drop m = y := by
  rw [← hm, ← List.drop_drop, h, ← hx, List.drop_left]

end Go.Proofs.Ytgdhiihfcngjbaa
